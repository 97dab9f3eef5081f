/- Numbers modulo p: what is shown of Root. No condition. -/
import Derived.Test.YtfobnajgnnccmaaFk9
import Derived.Test.YtfobnajgnnccmaaSxR
namespace Go.Proofs.Ytfobnajgnnccmaa
open Go.RowKit Go.Bx Go.Sx
set_option linter.unusedSimpArgs false
theorem yes_bit {x y : Int} {dy : Decidable (y ≠ 0)} (h : x = b2i !(@decide (y ≠ 0) dy)) (hy : y = 0) : decide (x ≠ 0) = true := by rw [not_bit0 h hy]; rfl
theorem okRoot : CtrOK Try.prog sfns cRoot := by
  refine CtrOK.of okT8 mixed (lf := 300) (d := 5) rfl fun w vs xs ha _ => ?_
  obtain ⟨v, a, rfl, rfl, ⟨la, -, ia⟩⟩ := open1 ha
  have bA := bdW la ia
  have bR0 := powZ_bd (N := E8) bA.1 bA.2 256
  obtain ⟨R, hR⟩ : ∃ R, R = powZ (dv MM a) E8 256 := ⟨_, rfl⟩
  have bR : 0 ≤ R ∧ R < WW := by rw [hR]; exact bR0
  obtain ⟨M, hM⟩ : ∃ M, M = moZ := ⟨_, rfl⟩
  have bM : 0 ≤ M ∧ M < WW := by rw [hM]; unfold moZ; exact powZ_bd (A := 2) (N := E4) (by decide) (by decide) 256
  obtain ⟨X, hX⟩ : ∃ X, X = timesZ R M := ⟨_, rfl⟩
  have bX : 0 ≤ X ∧ X < WW := by rw [hX]; exact timesZ_bd bR.1 bR.2 bM.1 bM.2
  have eE8 : dv MM [18446744073709551614, 18446744073709551615, 18446744073709551615, 1152921504606846975] = E8 := by decide
  have esg : sfns.g cRoot.j [a] = (if timesZ (rootT (dv MM a)) (rootT (dv MM a)) % PP = dv MM a % PP then dg MM 4 (evenZ (rootT (dv MM a) % PP)) ++ [1] else [0, 0, 0, 0, 0]) := by
    simp only [sfns, cRoot, sg]
  rw [esg]
  by_cases c1 : timesZ R R % PP = dv MM a % PP
  · have eT : rootT (dv MM a) = R := by rw [rootT, ← hR, if_pos c1]
    rw [eT, if_pos c1]
    by_cases c3 : R % PP % 2 = 1
    · refine Go.Sx.Way.of (dec := [false,false,true]) (fs := [.need 19 [[.v 0, .v 1, .v 2, .v 3], [.l 18446744073709551614, .l 18446744073709551615, .l 18446744073709551615, .l 1152921504606846975]], .call 4 19 [[.v 0, .v 1, .v 2, .v 3], [.l 18446744073709551614, .l 18446744073709551615, .l 18446744073709551615, .l 1152921504606846975]] 4, .need 18 [[.v 4, .v 5, .v 6, .v 7], [.v 4, .v 5, .v 6, .v 7]], .call 8 18 [[.v 4, .v 5, .v 6, .v 7], [.v 4, .v 5, .v 6, .v 7]] 4, .need 12 [[.v 8, .v 9, .v 10, .v 11]], .call 12 12 [[.v 8, .v 9, .v 10, .v 11]] 4, .need 12 [[.v 0, .v 1, .v 2, .v 3]], .call 16 12 [[.v 0, .v 1, .v 2, .v 3]] 4, .eqs 20 [(.v 12, .v 16), (.v 13, .v 17), (.v 14, .v 18), (.v 15, .v 19)], .not 21 (.v 20), .cond 21 false, .need 18 [[.v 4, .v 5, .v 6, .v 7], [.v 4, .v 5, .v 6, .v 7]], .call 22 18 [[.v 4, .v 5, .v 6, .v 7], [.v 4, .v 5, .v 6, .v 7]] 4, .need 12 [[.v 22, .v 23, .v 24, .v 25]], .call 26 12 [[.v 22, .v 23, .v 24, .v 25]] 4, .need 12 [[.v 0, .v 1, .v 2, .v 3]], .call 30 12 [[.v 0, .v 1, .v 2, .v 3]] 4, .eqs 34 [(.v 26, .v 30), (.v 27, .v 31), (.v 28, .v 32), (.v 29, .v 33)], .not 35 (.v 34), .cond 35 false, .need 12 [[.v 4, .v 5, .v 6, .v 7]], .call 36 12 [[.v 4, .v 5, .v 6, .v 7]] 4, .bin 40 .and .u64 (.v 36) (.l 1), .cmp 41 .eql (.v 40) (.l 1), .cond 41 true, .need 16 [[.l 0, .l 0, .l 0, .l 0], [.v 36, .v 37, .v 38, .v 39]], .call 42 16 [[.l 0, .l 0, .l 0, .l 0], [.v 36, .v 37, .v 38, .v 39]] 4, .need 12 [[.v 42, .v 43, .v 44, .v 45]], .call 46 12 [[.v 42, .v 43, .v 44, .v 45]] 4]) (refs := [.v 46, .v 47, .v 48, .v 49, .l 1]) (by kernel_rfl) fun ρ hρ hd => ?_
      have ea := seg0 la hρ
      simp only [D_nil, D_add, D_sub, D_mul, D_and, D_or, D_xor, D_shl, D_shr, D_andNot, D_quo, D_rem, D_add_i64, D_sub_i64, D_mul_i64, D_add_u32, D_sub_u32, D_mul_u32, D_add_u8, D_sub_u8, D_mul_u8, D_eql, D_neq, D_lss, D_leq, D_gtr, D_geq, D_not, D_conv, D_eqs, D_call, D_cond, D_need, D_idx, D_sel, D_upd, D_shv, D_beq, List.map_cons, List.map_nil, Ref.den] at hd
      obtain ⟨h4, h8, h12, h16, h20, h21, h22, h26, h30, h34, h35, h36, h40, h41, h42, h46, -⟩ := hd
      have s4 : seg ρ 4 4 = dg MM 4 (powZ (dv MM (seg ρ 0 4)) (dv MM [18446744073709551614, 18446744073709551615, 18446744073709551615, 1152921504606846975]) 256) := seg_of h4 (by first | exact dg_len _ _ _ | rfl)
      have s8 : seg ρ 8 4 = dg MM 4 (timesZ (dv MM (seg ρ 4 4)) (dv MM (seg ρ 4 4))) := seg_of h8 (by first | exact dg_len _ _ _ | rfl)
      have s12 : seg ρ 12 4 = dg MM 4 (dv MM (seg ρ 8 4) % PP) := seg_of h12 (by first | exact dg_len _ _ _ | rfl)
      have s16 : seg ρ 16 4 = dg MM 4 (dv MM (seg ρ 0 4) % PP) := seg_of h16 (by first | exact dg_len _ _ _ | rfl)
      have q20 : ρ 20 = b2i (decide ((seg ρ 12 4) = (seg ρ 16 4))) := h20.trans (congrArg b2i eqs_lists)
      have s22 : seg ρ 22 4 = dg MM 4 (timesZ (dv MM (seg ρ 4 4)) (dv MM (seg ρ 4 4))) := seg_of h22 (by first | exact dg_len _ _ _ | rfl)
      have s26 : seg ρ 26 4 = dg MM 4 (dv MM (seg ρ 22 4) % PP) := seg_of h26 (by first | exact dg_len _ _ _ | rfl)
      have s30 : seg ρ 30 4 = dg MM 4 (dv MM (seg ρ 0 4) % PP) := seg_of h30 (by first | exact dg_len _ _ _ | rfl)
      have q34 : ρ 34 = b2i (decide ((seg ρ 26 4) = (seg ρ 30 4))) := h34.trans (congrArg b2i eqs_lists)
      have s36 : seg ρ 36 4 = dg MM 4 (dv MM (seg ρ 4 4) % PP) := seg_of h36 (by first | exact dg_len _ _ _ | rfl)
      have s42 : seg ρ 42 4 = dg MM 4 (minZ (dv MM [0, 0, 0, 0]) (dv MM (seg ρ 36 4))) := seg_of h42 (by first | exact dg_len _ _ _ | rfl)
      have s46 : seg ρ 46 4 = dg MM 4 (dv MM (seg ρ 42 4) % PP) := seg_of h46 (by first | exact dg_len _ _ _ | rfl)
      rw [ea, eE8, ← hR] at s4
      rw [s4, dvW bR.1 bR.2] at s8
      rw [s8, mulB bR bR] at s12
      rw [ea] at s16
      rw [s12, s16] at q20
      have d20 := b2i_dec _ (q20.trans (b2i_congr (dgn (modB _) (modB _))))
      have k20 : ρ 20 = 1 := by rcases d20 with ⟨_, h⟩ | ⟨h, _⟩ <;> first | exact h | exact absurd c1 h
      have k21 := not_bit h21 k20
      rw [s4, dvW bR.1 bR.2] at s22
      rw [s22, mulB bR bR] at s26
      rw [s4, dvW bR.1 bR.2] at s36
      rw [ea] at s30
      rw [s26, s30] at q34
      have d34 := b2i_dec _ (q34.trans (b2i_congr (dgn (modB _) (modB _))))
      have k34 : ρ 34 = 1 := by rcases d34 with ⟨_, h⟩ | ⟨h, _⟩ <;> first | exact h | exact absurd c1 h
      have k35 := not_bit h35 k34
      have f0 : ρ 36 = (R) % PP % MM := by have := congrArg (fun l => l.getD 0 0) s36; exact this
      have f1 : ρ 40 = (R) % PP % 2 := by
        rw [u_and 1 (by decide) (by rw [f0]; unfold MM; omega) (by rw [f0]; unfold MM; omega) rfl h40, f0]
        unfold MM; omega
      have g41 : ρ 41 = b2i (decide ((R) % PP % 2 = 1)) := h41.trans (b2i_congr (by rw [← f1]))
      have k41 := bit_true g41 (decide_eq_true c3)
      have z0 : dv MM [0, 0, 0, 0] = 0 := by decide
      have bz := minZ_bd (A := 0) (by decide) (by decide) (modB (R)).1 (modB (R)).2
      rw [z0, s36, dvW (modB _).1 (modB _).2] at s42
      rw [s42, dvW bz.1 bz.2] at s46
      refine ⟨?_, ?_⟩
      · simp only [G_nil, G_bin, G_cmp, G_not, G_conv, G_eqs, G_call, G_cond, G_need, G_idx, G_sel, G_upd, G_shv, G_beq, List.map_cons, List.map_nil, Ref.den]
        exact ⟨trivial, trivial, trivial, trivial, k21, trivial, trivial, trivial, k35, trivial, k41, trivial, trivial, trivial⟩
      · show seg ρ 46 4 ++ [1] = _
        rw [s46, evenZ, if_pos c3]
    · refine Go.Sx.Way.of (dec := [false,false,false]) (fs := [.need 19 [[.v 0, .v 1, .v 2, .v 3], [.l 18446744073709551614, .l 18446744073709551615, .l 18446744073709551615, .l 1152921504606846975]], .call 4 19 [[.v 0, .v 1, .v 2, .v 3], [.l 18446744073709551614, .l 18446744073709551615, .l 18446744073709551615, .l 1152921504606846975]] 4, .need 18 [[.v 4, .v 5, .v 6, .v 7], [.v 4, .v 5, .v 6, .v 7]], .call 8 18 [[.v 4, .v 5, .v 6, .v 7], [.v 4, .v 5, .v 6, .v 7]] 4, .need 12 [[.v 8, .v 9, .v 10, .v 11]], .call 12 12 [[.v 8, .v 9, .v 10, .v 11]] 4, .need 12 [[.v 0, .v 1, .v 2, .v 3]], .call 16 12 [[.v 0, .v 1, .v 2, .v 3]] 4, .eqs 20 [(.v 12, .v 16), (.v 13, .v 17), (.v 14, .v 18), (.v 15, .v 19)], .not 21 (.v 20), .cond 21 false, .need 18 [[.v 4, .v 5, .v 6, .v 7], [.v 4, .v 5, .v 6, .v 7]], .call 22 18 [[.v 4, .v 5, .v 6, .v 7], [.v 4, .v 5, .v 6, .v 7]] 4, .need 12 [[.v 22, .v 23, .v 24, .v 25]], .call 26 12 [[.v 22, .v 23, .v 24, .v 25]] 4, .need 12 [[.v 0, .v 1, .v 2, .v 3]], .call 30 12 [[.v 0, .v 1, .v 2, .v 3]] 4, .eqs 34 [(.v 26, .v 30), (.v 27, .v 31), (.v 28, .v 32), (.v 29, .v 33)], .not 35 (.v 34), .cond 35 false, .need 12 [[.v 4, .v 5, .v 6, .v 7]], .call 36 12 [[.v 4, .v 5, .v 6, .v 7]] 4, .bin 40 .and .u64 (.v 36) (.l 1), .cmp 41 .eql (.v 40) (.l 1), .cond 41 false]) (refs := [.v 36, .v 37, .v 38, .v 39, .l 1]) (by kernel_rfl) fun ρ hρ hd => ?_
      have ea := seg0 la hρ
      simp only [D_nil, D_add, D_sub, D_mul, D_and, D_or, D_xor, D_shl, D_shr, D_andNot, D_quo, D_rem, D_add_i64, D_sub_i64, D_mul_i64, D_add_u32, D_sub_u32, D_mul_u32, D_add_u8, D_sub_u8, D_mul_u8, D_eql, D_neq, D_lss, D_leq, D_gtr, D_geq, D_not, D_conv, D_eqs, D_call, D_cond, D_need, D_idx, D_sel, D_upd, D_shv, D_beq, List.map_cons, List.map_nil, Ref.den] at hd
      obtain ⟨h4, h8, h12, h16, h20, h21, h22, h26, h30, h34, h35, h36, h40, h41, -⟩ := hd
      have s4 : seg ρ 4 4 = dg MM 4 (powZ (dv MM (seg ρ 0 4)) (dv MM [18446744073709551614, 18446744073709551615, 18446744073709551615, 1152921504606846975]) 256) := seg_of h4 (by first | exact dg_len _ _ _ | rfl)
      have s8 : seg ρ 8 4 = dg MM 4 (timesZ (dv MM (seg ρ 4 4)) (dv MM (seg ρ 4 4))) := seg_of h8 (by first | exact dg_len _ _ _ | rfl)
      have s12 : seg ρ 12 4 = dg MM 4 (dv MM (seg ρ 8 4) % PP) := seg_of h12 (by first | exact dg_len _ _ _ | rfl)
      have s16 : seg ρ 16 4 = dg MM 4 (dv MM (seg ρ 0 4) % PP) := seg_of h16 (by first | exact dg_len _ _ _ | rfl)
      have q20 : ρ 20 = b2i (decide ((seg ρ 12 4) = (seg ρ 16 4))) := h20.trans (congrArg b2i eqs_lists)
      have s22 : seg ρ 22 4 = dg MM 4 (timesZ (dv MM (seg ρ 4 4)) (dv MM (seg ρ 4 4))) := seg_of h22 (by first | exact dg_len _ _ _ | rfl)
      have s26 : seg ρ 26 4 = dg MM 4 (dv MM (seg ρ 22 4) % PP) := seg_of h26 (by first | exact dg_len _ _ _ | rfl)
      have s30 : seg ρ 30 4 = dg MM 4 (dv MM (seg ρ 0 4) % PP) := seg_of h30 (by first | exact dg_len _ _ _ | rfl)
      have q34 : ρ 34 = b2i (decide ((seg ρ 26 4) = (seg ρ 30 4))) := h34.trans (congrArg b2i eqs_lists)
      have s36 : seg ρ 36 4 = dg MM 4 (dv MM (seg ρ 4 4) % PP) := seg_of h36 (by first | exact dg_len _ _ _ | rfl)
      rw [ea, eE8, ← hR] at s4
      rw [s4, dvW bR.1 bR.2] at s8
      rw [s8, mulB bR bR] at s12
      rw [ea] at s16
      rw [s12, s16] at q20
      have d20 := b2i_dec _ (q20.trans (b2i_congr (dgn (modB _) (modB _))))
      have k20 : ρ 20 = 1 := by rcases d20 with ⟨_, h⟩ | ⟨h, _⟩ <;> first | exact h | exact absurd c1 h
      have k21 := not_bit h21 k20
      rw [s4, dvW bR.1 bR.2] at s22
      rw [s22, mulB bR bR] at s26
      rw [s4, dvW bR.1 bR.2] at s36
      rw [ea] at s30
      rw [s26, s30] at q34
      have d34 := b2i_dec _ (q34.trans (b2i_congr (dgn (modB _) (modB _))))
      have k34 : ρ 34 = 1 := by rcases d34 with ⟨_, h⟩ | ⟨h, _⟩ <;> first | exact h | exact absurd c1 h
      have k35 := not_bit h35 k34
      have f0 : ρ 36 = (R) % PP % MM := by have := congrArg (fun l => l.getD 0 0) s36; exact this
      have f1 : ρ 40 = (R) % PP % 2 := by
        rw [u_and 1 (by decide) (by rw [f0]; unfold MM; omega) (by rw [f0]; unfold MM; omega) rfl h40, f0]
        unfold MM; omega
      have g41 : ρ 41 = b2i (decide ((R) % PP % 2 = 1)) := h41.trans (b2i_congr (by rw [← f1]))
      have k41 := bit_false g41 (decide_eq_false c3)
      refine ⟨?_, ?_⟩
      · simp only [G_nil, G_bin, G_cmp, G_not, G_conv, G_eqs, G_call, G_cond, G_need, G_idx, G_sel, G_upd, G_shv, G_beq, List.map_cons, List.map_nil, Ref.den]
        exact ⟨trivial, trivial, trivial, trivial, k21, trivial, trivial, trivial, k35, trivial, k41, trivial⟩
      · show seg ρ 36 4 ++ [1] = _
        rw [s36, evenZ, if_neg c3]
  · have eT : rootT (dv MM a) = X := by rw [rootT, ← hR, if_neg c1, ← hM, ← hX]
    rw [eT]
    by_cases c2 : timesZ X X % PP = dv MM a % PP
    · rw [if_pos c2]
      by_cases c3 : X % PP % 2 = 1
      · refine Go.Sx.Way.of (dec := [true,false,true]) (fs := [.need 19 [[.v 0, .v 1, .v 2, .v 3], [.l 18446744073709551614, .l 18446744073709551615, .l 18446744073709551615, .l 1152921504606846975]], .call 4 19 [[.v 0, .v 1, .v 2, .v 3], [.l 18446744073709551614, .l 18446744073709551615, .l 18446744073709551615, .l 1152921504606846975]] 4, .need 18 [[.v 4, .v 5, .v 6, .v 7], [.v 4, .v 5, .v 6, .v 7]], .call 8 18 [[.v 4, .v 5, .v 6, .v 7], [.v 4, .v 5, .v 6, .v 7]] 4, .need 12 [[.v 8, .v 9, .v 10, .v 11]], .call 12 12 [[.v 8, .v 9, .v 10, .v 11]] 4, .need 12 [[.v 0, .v 1, .v 2, .v 3]], .call 16 12 [[.v 0, .v 1, .v 2, .v 3]] 4, .eqs 20 [(.v 12, .v 16), (.v 13, .v 17), (.v 14, .v 18), (.v 15, .v 19)], .not 21 (.v 20), .cond 21 true, .need 21 [], .call 22 21 [] 4, .need 18 [[.v 4, .v 5, .v 6, .v 7], [.v 22, .v 23, .v 24, .v 25]], .call 26 18 [[.v 4, .v 5, .v 6, .v 7], [.v 22, .v 23, .v 24, .v 25]] 4, .need 18 [[.v 26, .v 27, .v 28, .v 29], [.v 26, .v 27, .v 28, .v 29]], .call 30 18 [[.v 26, .v 27, .v 28, .v 29], [.v 26, .v 27, .v 28, .v 29]] 4, .need 12 [[.v 30, .v 31, .v 32, .v 33]], .call 34 12 [[.v 30, .v 31, .v 32, .v 33]] 4, .need 12 [[.v 0, .v 1, .v 2, .v 3]], .call 38 12 [[.v 0, .v 1, .v 2, .v 3]] 4, .eqs 42 [(.v 34, .v 38), (.v 35, .v 39), (.v 36, .v 40), (.v 37, .v 41)], .not 43 (.v 42), .cond 43 false, .need 12 [[.v 26, .v 27, .v 28, .v 29]], .call 44 12 [[.v 26, .v 27, .v 28, .v 29]] 4, .bin 48 .and .u64 (.v 44) (.l 1), .cmp 49 .eql (.v 48) (.l 1), .cond 49 true, .need 16 [[.l 0, .l 0, .l 0, .l 0], [.v 44, .v 45, .v 46, .v 47]], .call 50 16 [[.l 0, .l 0, .l 0, .l 0], [.v 44, .v 45, .v 46, .v 47]] 4, .need 12 [[.v 50, .v 51, .v 52, .v 53]], .call 54 12 [[.v 50, .v 51, .v 52, .v 53]] 4]) (refs := [.v 54, .v 55, .v 56, .v 57, .l 1]) (by kernel_rfl) fun ρ hρ hd => ?_
        have ea := seg0 la hρ
        simp only [D_nil, D_add, D_sub, D_mul, D_and, D_or, D_xor, D_shl, D_shr, D_andNot, D_quo, D_rem, D_add_i64, D_sub_i64, D_mul_i64, D_add_u32, D_sub_u32, D_mul_u32, D_add_u8, D_sub_u8, D_mul_u8, D_eql, D_neq, D_lss, D_leq, D_gtr, D_geq, D_not, D_conv, D_eqs, D_call, D_cond, D_need, D_idx, D_sel, D_upd, D_shv, D_beq, List.map_cons, List.map_nil, Ref.den] at hd
        obtain ⟨h4, h8, h12, h16, h20, h21, h22, h26, h30, h34, h38, h42, h43, h44, h48, h49, h50, h54, -⟩ := hd
        have s4 : seg ρ 4 4 = dg MM 4 (powZ (dv MM (seg ρ 0 4)) (dv MM [18446744073709551614, 18446744073709551615, 18446744073709551615, 1152921504606846975]) 256) := seg_of h4 (by first | exact dg_len _ _ _ | rfl)
        have s8 : seg ρ 8 4 = dg MM 4 (timesZ (dv MM (seg ρ 4 4)) (dv MM (seg ρ 4 4))) := seg_of h8 (by first | exact dg_len _ _ _ | rfl)
        have s12 : seg ρ 12 4 = dg MM 4 (dv MM (seg ρ 8 4) % PP) := seg_of h12 (by first | exact dg_len _ _ _ | rfl)
        have s16 : seg ρ 16 4 = dg MM 4 (dv MM (seg ρ 0 4) % PP) := seg_of h16 (by first | exact dg_len _ _ _ | rfl)
        have q20 : ρ 20 = b2i (decide ((seg ρ 12 4) = (seg ρ 16 4))) := h20.trans (congrArg b2i eqs_lists)
        have s22 : seg ρ 22 4 = dg MM 4 moZ := seg_of h22 (by first | exact dg_len _ _ _ | rfl)
        have s26 : seg ρ 26 4 = dg MM 4 (timesZ (dv MM (seg ρ 4 4)) (dv MM (seg ρ 22 4))) := seg_of h26 (by first | exact dg_len _ _ _ | rfl)
        have s30 : seg ρ 30 4 = dg MM 4 (timesZ (dv MM (seg ρ 26 4)) (dv MM (seg ρ 26 4))) := seg_of h30 (by first | exact dg_len _ _ _ | rfl)
        have s34 : seg ρ 34 4 = dg MM 4 (dv MM (seg ρ 30 4) % PP) := seg_of h34 (by first | exact dg_len _ _ _ | rfl)
        have s38 : seg ρ 38 4 = dg MM 4 (dv MM (seg ρ 0 4) % PP) := seg_of h38 (by first | exact dg_len _ _ _ | rfl)
        have q42 : ρ 42 = b2i (decide ((seg ρ 34 4) = (seg ρ 38 4))) := h42.trans (congrArg b2i eqs_lists)
        have s44 : seg ρ 44 4 = dg MM 4 (dv MM (seg ρ 26 4) % PP) := seg_of h44 (by first | exact dg_len _ _ _ | rfl)
        have s50 : seg ρ 50 4 = dg MM 4 (minZ (dv MM [0, 0, 0, 0]) (dv MM (seg ρ 44 4))) := seg_of h50 (by first | exact dg_len _ _ _ | rfl)
        have s54 : seg ρ 54 4 = dg MM 4 (dv MM (seg ρ 50 4) % PP) := seg_of h54 (by first | exact dg_len _ _ _ | rfl)
        rw [ea, eE8, ← hR] at s4
        rw [s4, dvW bR.1 bR.2] at s8
        rw [s8, mulB bR bR] at s12
        rw [ea] at s16
        rw [s12, s16] at q20
        have d20 := b2i_dec _ (q20.trans (b2i_congr (dgn (modB _) (modB _))))
        have k20 : ρ 20 = 0 := by rcases d20 with ⟨h, _⟩ | ⟨_, h⟩ <;> first | exact h | exact absurd h c1
        have k21 := yes_bit h21 k20
        rw [← hM] at s22
        rw [s4, s22, dvW bR.1 bR.2, dvW bM.1 bM.2, ← hX] at s26
        rw [s26, dvW bX.1 bX.2] at s30
        rw [s30, mulB bX bX] at s34
        rw [ea] at s38
        rw [s34, s38] at q42
        have d42 := b2i_dec _ (q42.trans (b2i_congr (dgn (modB _) (modB _))))
        have k42 : ρ 42 = 1 := by rcases d42 with ⟨_, h⟩ | ⟨h, _⟩ <;> first | exact h | exact absurd c2 h
        have k43 := not_bit h43 k42
        rw [s26, dvW bX.1 bX.2] at s44
        have f0 : ρ 44 = (X) % PP % MM := by have := congrArg (fun l => l.getD 0 0) s44; exact this
        have f1 : ρ 48 = (X) % PP % 2 := by
          rw [u_and 1 (by decide) (by rw [f0]; unfold MM; omega) (by rw [f0]; unfold MM; omega) rfl h48, f0]
          unfold MM; omega
        have g49 : ρ 49 = b2i (decide ((X) % PP % 2 = 1)) := h49.trans (b2i_congr (by rw [← f1]))
        have k49 := bit_true g49 (decide_eq_true c3)
        have z0 : dv MM [0, 0, 0, 0] = 0 := by decide
        have bz := minZ_bd (A := 0) (by decide) (by decide) (modB (X)).1 (modB (X)).2
        rw [z0, s44, dvW (modB _).1 (modB _).2] at s50
        rw [s50, dvW bz.1 bz.2] at s54
        refine ⟨?_, ?_⟩
        · simp only [G_nil, G_bin, G_cmp, G_not, G_conv, G_eqs, G_call, G_cond, G_need, G_idx, G_sel, G_upd, G_shv, G_beq, List.map_cons, List.map_nil, Ref.den]
          exact ⟨trivial, trivial, trivial, trivial, k21, trivial, trivial, trivial, trivial, trivial, k43, trivial, k49, trivial, trivial, trivial⟩
        · show seg ρ 54 4 ++ [1] = _
          rw [s54, evenZ, if_pos c3]
      · refine Go.Sx.Way.of (dec := [true,false,false]) (fs := [.need 19 [[.v 0, .v 1, .v 2, .v 3], [.l 18446744073709551614, .l 18446744073709551615, .l 18446744073709551615, .l 1152921504606846975]], .call 4 19 [[.v 0, .v 1, .v 2, .v 3], [.l 18446744073709551614, .l 18446744073709551615, .l 18446744073709551615, .l 1152921504606846975]] 4, .need 18 [[.v 4, .v 5, .v 6, .v 7], [.v 4, .v 5, .v 6, .v 7]], .call 8 18 [[.v 4, .v 5, .v 6, .v 7], [.v 4, .v 5, .v 6, .v 7]] 4, .need 12 [[.v 8, .v 9, .v 10, .v 11]], .call 12 12 [[.v 8, .v 9, .v 10, .v 11]] 4, .need 12 [[.v 0, .v 1, .v 2, .v 3]], .call 16 12 [[.v 0, .v 1, .v 2, .v 3]] 4, .eqs 20 [(.v 12, .v 16), (.v 13, .v 17), (.v 14, .v 18), (.v 15, .v 19)], .not 21 (.v 20), .cond 21 true, .need 21 [], .call 22 21 [] 4, .need 18 [[.v 4, .v 5, .v 6, .v 7], [.v 22, .v 23, .v 24, .v 25]], .call 26 18 [[.v 4, .v 5, .v 6, .v 7], [.v 22, .v 23, .v 24, .v 25]] 4, .need 18 [[.v 26, .v 27, .v 28, .v 29], [.v 26, .v 27, .v 28, .v 29]], .call 30 18 [[.v 26, .v 27, .v 28, .v 29], [.v 26, .v 27, .v 28, .v 29]] 4, .need 12 [[.v 30, .v 31, .v 32, .v 33]], .call 34 12 [[.v 30, .v 31, .v 32, .v 33]] 4, .need 12 [[.v 0, .v 1, .v 2, .v 3]], .call 38 12 [[.v 0, .v 1, .v 2, .v 3]] 4, .eqs 42 [(.v 34, .v 38), (.v 35, .v 39), (.v 36, .v 40), (.v 37, .v 41)], .not 43 (.v 42), .cond 43 false, .need 12 [[.v 26, .v 27, .v 28, .v 29]], .call 44 12 [[.v 26, .v 27, .v 28, .v 29]] 4, .bin 48 .and .u64 (.v 44) (.l 1), .cmp 49 .eql (.v 48) (.l 1), .cond 49 false]) (refs := [.v 44, .v 45, .v 46, .v 47, .l 1]) (by kernel_rfl) fun ρ hρ hd => ?_
        have ea := seg0 la hρ
        simp only [D_nil, D_add, D_sub, D_mul, D_and, D_or, D_xor, D_shl, D_shr, D_andNot, D_quo, D_rem, D_add_i64, D_sub_i64, D_mul_i64, D_add_u32, D_sub_u32, D_mul_u32, D_add_u8, D_sub_u8, D_mul_u8, D_eql, D_neq, D_lss, D_leq, D_gtr, D_geq, D_not, D_conv, D_eqs, D_call, D_cond, D_need, D_idx, D_sel, D_upd, D_shv, D_beq, List.map_cons, List.map_nil, Ref.den] at hd
        obtain ⟨h4, h8, h12, h16, h20, h21, h22, h26, h30, h34, h38, h42, h43, h44, h48, h49, -⟩ := hd
        have s4 : seg ρ 4 4 = dg MM 4 (powZ (dv MM (seg ρ 0 4)) (dv MM [18446744073709551614, 18446744073709551615, 18446744073709551615, 1152921504606846975]) 256) := seg_of h4 (by first | exact dg_len _ _ _ | rfl)
        have s8 : seg ρ 8 4 = dg MM 4 (timesZ (dv MM (seg ρ 4 4)) (dv MM (seg ρ 4 4))) := seg_of h8 (by first | exact dg_len _ _ _ | rfl)
        have s12 : seg ρ 12 4 = dg MM 4 (dv MM (seg ρ 8 4) % PP) := seg_of h12 (by first | exact dg_len _ _ _ | rfl)
        have s16 : seg ρ 16 4 = dg MM 4 (dv MM (seg ρ 0 4) % PP) := seg_of h16 (by first | exact dg_len _ _ _ | rfl)
        have q20 : ρ 20 = b2i (decide ((seg ρ 12 4) = (seg ρ 16 4))) := h20.trans (congrArg b2i eqs_lists)
        have s22 : seg ρ 22 4 = dg MM 4 moZ := seg_of h22 (by first | exact dg_len _ _ _ | rfl)
        have s26 : seg ρ 26 4 = dg MM 4 (timesZ (dv MM (seg ρ 4 4)) (dv MM (seg ρ 22 4))) := seg_of h26 (by first | exact dg_len _ _ _ | rfl)
        have s30 : seg ρ 30 4 = dg MM 4 (timesZ (dv MM (seg ρ 26 4)) (dv MM (seg ρ 26 4))) := seg_of h30 (by first | exact dg_len _ _ _ | rfl)
        have s34 : seg ρ 34 4 = dg MM 4 (dv MM (seg ρ 30 4) % PP) := seg_of h34 (by first | exact dg_len _ _ _ | rfl)
        have s38 : seg ρ 38 4 = dg MM 4 (dv MM (seg ρ 0 4) % PP) := seg_of h38 (by first | exact dg_len _ _ _ | rfl)
        have q42 : ρ 42 = b2i (decide ((seg ρ 34 4) = (seg ρ 38 4))) := h42.trans (congrArg b2i eqs_lists)
        have s44 : seg ρ 44 4 = dg MM 4 (dv MM (seg ρ 26 4) % PP) := seg_of h44 (by first | exact dg_len _ _ _ | rfl)
        rw [ea, eE8, ← hR] at s4
        rw [s4, dvW bR.1 bR.2] at s8
        rw [s8, mulB bR bR] at s12
        rw [ea] at s16
        rw [s12, s16] at q20
        have d20 := b2i_dec _ (q20.trans (b2i_congr (dgn (modB _) (modB _))))
        have k20 : ρ 20 = 0 := by rcases d20 with ⟨h, _⟩ | ⟨_, h⟩ <;> first | exact h | exact absurd h c1
        have k21 := yes_bit h21 k20
        rw [← hM] at s22
        rw [s4, s22, dvW bR.1 bR.2, dvW bM.1 bM.2, ← hX] at s26
        rw [s26, dvW bX.1 bX.2] at s30
        rw [s30, mulB bX bX] at s34
        rw [ea] at s38
        rw [s34, s38] at q42
        have d42 := b2i_dec _ (q42.trans (b2i_congr (dgn (modB _) (modB _))))
        have k42 : ρ 42 = 1 := by rcases d42 with ⟨_, h⟩ | ⟨h, _⟩ <;> first | exact h | exact absurd c2 h
        have k43 := not_bit h43 k42
        rw [s26, dvW bX.1 bX.2] at s44
        have f0 : ρ 44 = (X) % PP % MM := by have := congrArg (fun l => l.getD 0 0) s44; exact this
        have f1 : ρ 48 = (X) % PP % 2 := by
          rw [u_and 1 (by decide) (by rw [f0]; unfold MM; omega) (by rw [f0]; unfold MM; omega) rfl h48, f0]
          unfold MM; omega
        have g49 : ρ 49 = b2i (decide ((X) % PP % 2 = 1)) := h49.trans (b2i_congr (by rw [← f1]))
        have k49 := bit_false g49 (decide_eq_false c3)
        refine ⟨?_, ?_⟩
        · simp only [G_nil, G_bin, G_cmp, G_not, G_conv, G_eqs, G_call, G_cond, G_need, G_idx, G_sel, G_upd, G_shv, G_beq, List.map_cons, List.map_nil, Ref.den]
          exact ⟨trivial, trivial, trivial, trivial, k21, trivial, trivial, trivial, trivial, trivial, k43, trivial, k49, trivial⟩
        · show seg ρ 44 4 ++ [1] = _
          rw [s44, evenZ, if_neg c3]
    · rw [if_neg c2]
      refine Go.Sx.Way.of (dec := [true,true]) (fs := [.need 19 [[.v 0, .v 1, .v 2, .v 3], [.l 18446744073709551614, .l 18446744073709551615, .l 18446744073709551615, .l 1152921504606846975]], .call 4 19 [[.v 0, .v 1, .v 2, .v 3], [.l 18446744073709551614, .l 18446744073709551615, .l 18446744073709551615, .l 1152921504606846975]] 4, .need 18 [[.v 4, .v 5, .v 6, .v 7], [.v 4, .v 5, .v 6, .v 7]], .call 8 18 [[.v 4, .v 5, .v 6, .v 7], [.v 4, .v 5, .v 6, .v 7]] 4, .need 12 [[.v 8, .v 9, .v 10, .v 11]], .call 12 12 [[.v 8, .v 9, .v 10, .v 11]] 4, .need 12 [[.v 0, .v 1, .v 2, .v 3]], .call 16 12 [[.v 0, .v 1, .v 2, .v 3]] 4, .eqs 20 [(.v 12, .v 16), (.v 13, .v 17), (.v 14, .v 18), (.v 15, .v 19)], .not 21 (.v 20), .cond 21 true, .need 21 [], .call 22 21 [] 4, .need 18 [[.v 4, .v 5, .v 6, .v 7], [.v 22, .v 23, .v 24, .v 25]], .call 26 18 [[.v 4, .v 5, .v 6, .v 7], [.v 22, .v 23, .v 24, .v 25]] 4, .need 18 [[.v 26, .v 27, .v 28, .v 29], [.v 26, .v 27, .v 28, .v 29]], .call 30 18 [[.v 26, .v 27, .v 28, .v 29], [.v 26, .v 27, .v 28, .v 29]] 4, .need 12 [[.v 30, .v 31, .v 32, .v 33]], .call 34 12 [[.v 30, .v 31, .v 32, .v 33]] 4, .need 12 [[.v 0, .v 1, .v 2, .v 3]], .call 38 12 [[.v 0, .v 1, .v 2, .v 3]] 4, .eqs 42 [(.v 34, .v 38), (.v 35, .v 39), (.v 36, .v 40), (.v 37, .v 41)], .not 43 (.v 42), .cond 43 true]) (refs := [.l 0, .l 0, .l 0, .l 0, .l 0]) (by kernel_rfl) fun ρ hρ hd => ?_
      have ea := seg0 la hρ
      simp only [D_nil, D_add, D_sub, D_mul, D_and, D_or, D_xor, D_shl, D_shr, D_andNot, D_quo, D_rem, D_add_i64, D_sub_i64, D_mul_i64, D_add_u32, D_sub_u32, D_mul_u32, D_add_u8, D_sub_u8, D_mul_u8, D_eql, D_neq, D_lss, D_leq, D_gtr, D_geq, D_not, D_conv, D_eqs, D_call, D_cond, D_need, D_idx, D_sel, D_upd, D_shv, D_beq, List.map_cons, List.map_nil, Ref.den] at hd
      obtain ⟨h4, h8, h12, h16, h20, h21, h22, h26, h30, h34, h38, h42, h43, -⟩ := hd
      have s4 : seg ρ 4 4 = dg MM 4 (powZ (dv MM (seg ρ 0 4)) (dv MM [18446744073709551614, 18446744073709551615, 18446744073709551615, 1152921504606846975]) 256) := seg_of h4 (by first | exact dg_len _ _ _ | rfl)
      have s8 : seg ρ 8 4 = dg MM 4 (timesZ (dv MM (seg ρ 4 4)) (dv MM (seg ρ 4 4))) := seg_of h8 (by first | exact dg_len _ _ _ | rfl)
      have s12 : seg ρ 12 4 = dg MM 4 (dv MM (seg ρ 8 4) % PP) := seg_of h12 (by first | exact dg_len _ _ _ | rfl)
      have s16 : seg ρ 16 4 = dg MM 4 (dv MM (seg ρ 0 4) % PP) := seg_of h16 (by first | exact dg_len _ _ _ | rfl)
      have q20 : ρ 20 = b2i (decide ((seg ρ 12 4) = (seg ρ 16 4))) := h20.trans (congrArg b2i eqs_lists)
      have s22 : seg ρ 22 4 = dg MM 4 moZ := seg_of h22 (by first | exact dg_len _ _ _ | rfl)
      have s26 : seg ρ 26 4 = dg MM 4 (timesZ (dv MM (seg ρ 4 4)) (dv MM (seg ρ 22 4))) := seg_of h26 (by first | exact dg_len _ _ _ | rfl)
      have s30 : seg ρ 30 4 = dg MM 4 (timesZ (dv MM (seg ρ 26 4)) (dv MM (seg ρ 26 4))) := seg_of h30 (by first | exact dg_len _ _ _ | rfl)
      have s34 : seg ρ 34 4 = dg MM 4 (dv MM (seg ρ 30 4) % PP) := seg_of h34 (by first | exact dg_len _ _ _ | rfl)
      have s38 : seg ρ 38 4 = dg MM 4 (dv MM (seg ρ 0 4) % PP) := seg_of h38 (by first | exact dg_len _ _ _ | rfl)
      have q42 : ρ 42 = b2i (decide ((seg ρ 34 4) = (seg ρ 38 4))) := h42.trans (congrArg b2i eqs_lists)
      rw [ea, eE8, ← hR] at s4
      rw [s4, dvW bR.1 bR.2] at s8
      rw [s8, mulB bR bR] at s12
      rw [ea] at s16
      rw [s12, s16] at q20
      have d20 := b2i_dec _ (q20.trans (b2i_congr (dgn (modB _) (modB _))))
      have k20 : ρ 20 = 0 := by rcases d20 with ⟨h, _⟩ | ⟨_, h⟩ <;> first | exact h | exact absurd h c1
      have k21 := yes_bit h21 k20
      rw [← hM] at s22
      rw [s4, s22, dvW bR.1 bR.2, dvW bM.1 bM.2, ← hX] at s26
      rw [s26, dvW bX.1 bX.2] at s30
      rw [s30, mulB bX bX] at s34
      rw [ea] at s38
      rw [s34, s38] at q42
      have d42 := b2i_dec _ (q42.trans (b2i_congr (dgn (modB _) (modB _))))
      have k42 : ρ 42 = 0 := by rcases d42 with ⟨h, _⟩ | ⟨_, h⟩ <;> first | exact h | exact absurd h c2
      have k43 := yes_bit h43 k42
      refine ⟨?_, rfl⟩
      simp only [G_nil, G_bin, G_cmp, G_not, G_conv, G_eqs, G_call, G_cond, G_need, G_idx, G_sel, G_upd, G_shv, G_beq, List.map_cons, List.map_nil, Ref.den]
      exact ⟨trivial, trivial, trivial, trivial, k21, trivial, trivial, trivial, trivial, trivial, k43, trivial⟩
#print axioms okRoot
end Go.Proofs.Ytfobnajgnnccmaa
