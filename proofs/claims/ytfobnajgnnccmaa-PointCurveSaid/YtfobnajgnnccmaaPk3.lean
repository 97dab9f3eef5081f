/- Points of the curve: what is shown of word and read. No condition. -/
import Derived.Test.YtfobnajgnnccmaaPk2
import Derived.Test.YtfobnajgnnccmaaSxR
namespace Go.Bx
theorem u8_and : ∀ n : Fin 256, Go.Sx.binZ .and .u8 (n.val : Int) 128 = some (if 128 ≤ n.val then 128 else 0) := by decide +kernel
theorem u8_andNot : ∀ n : Fin 256, Go.Sx.binZ .andNot .u8 (n.val : Int) 128 = some ((n.val % 128 : Nat) : Int) := by decide +kernel
theorem u8_or : ∀ n : Fin 256, n.val < 128 → Go.Sx.binZ .or .u8 (n.val : Int) 128 = some ((n.val + 128 : Nat) : Int) := by decide +kernel
theorem u8_xor : ∀ n : Fin 256, Go.Sx.binZ .xor .u8 (n.val : Int) 128 = some (((n.val + 128) % 256 : Nat) : Int) := by decide +kernel
theorem byteN {x : Int} (h : 0 ≤ x ∧ x < 256) : ∃ n : Fin 256, x = (n.val : Int) := ⟨⟨x.toNat, by omega⟩, by simp; omega⟩
theorem and128 {x z : Int} (hx : 0 ≤ x ∧ x < 256) (h : Go.Sx.binZ .and .u8 x 128 = some z) : z = if 128 ≤ x then 128 else 0 := by
  obtain ⟨n, rfl⟩ := byteN hx
  rw [u8_and] at h
  have := Option.some.inj h
  by_cases c : 128 ≤ n.val
  · rw [if_pos c] at this; rw [if_pos (by omega)]; exact this.symm
  · rw [if_neg c] at this; rw [if_neg (by omega)]; exact this.symm
theorem andNot128 {x z : Int} (hx : 0 ≤ x ∧ x < 256) (h : Go.Sx.binZ .andNot .u8 x 128 = some z) : z = x % 128 := by
  obtain ⟨n, rfl⟩ := byteN hx
  rw [u8_andNot] at h
  have := Option.some.inj h
  omega
theorem or128 {x z : Int} (hx : 0 ≤ x ∧ x < 128) (h : Go.Sx.binZ .or .u8 x 128 = some z) : z = x + 128 := by
  obtain ⟨n, rfl⟩ := byteN (x := x) (by omega)
  rw [u8_or n (by omega)] at h
  have := Option.some.inj h
  omega
theorem xor128 {x z : Int} (hx : 0 ≤ x ∧ x < 256) (h : Go.Sx.binZ .xor .u8 x 128 = some z) : z = (x + 128) % 256 := by
  obtain ⟨n, rfl⟩ := byteN hx
  rw [u8_xor] at h
  have := Option.some.inj h
  omega
theorem H31 : (256 : Int) ^ 31 * 128 = H255 ∧ (0 : Int) < 256 ^ 31 := by decide
theorem dv_last (l : List Int) (x : Int) : dv 256 (l ++ [x]) = dv 256 l + 256 ^ l.length * x := by
  rw [dv_append]; simp [dv]
end Go.Bx
namespace Go.Proofs.Ytfobnajgnnccmaa
open Go.RowKit Go.Bx Go.Sx
set_option linter.unusedSimpArgs false
set_option linter.unusedVariables false
theorem fv {l : List Int} {A : Int} (s : l = dg MM 4 (powZ A (PP - 2) 256)) (ha : 0 ≤ A ∧ A < WW) : dv MM l = powZ A (PP - 2) 256 ∧ (0 ≤ dv MM l ∧ dv MM l < WW) := by
  have b := powZ_bd (N := PP - 2) ha.1 ha.2 256
  have e : dv MM l = powZ A (PP - 2) 256 := by rw [s, dvW b.1 b.2]
  exact ⟨e, by rw [e]; exact b⟩
theorem fn {l : List Int} {A : Int} (s : l = dg MM 4 (A % PP)) : dv MM l = A % PP ∧ (0 ≤ dv MM l ∧ dv MM l < WW) := by
  have b := modB A
  have e : dv MM l = A % PP := by rw [s, dvW b.1 b.2]
  exact ⟨e, by rw [e]; exact b⟩
/-- The last byte apart. -/
theorem last_split {ρ : Nat → Int} {o : Nat} {A : Int} (hA : dv 256 (seg ρ o 32) = A) (hd : Dig 256 (seg ρ o 32)) : dv 256 (seg ρ o 31) + 256 ^ 31 * ρ (o + 31) = A ∧ (0 ≤ dv 256 (seg ρ o 31) ∧ dv 256 (seg ρ o 31) < 256 ^ 31) ∧ (0 ≤ ρ (o + 31) ∧ ρ (o + 31) < 256) ∧ Dig 256 (seg ρ o 31) := by
  have e : seg ρ o 32 = seg ρ o 31 ++ [ρ (o + 31)] := pseg_sp ρ o 31 1
  rw [e] at hd
  have d1 : Dig 256 (seg ρ o 31) := ⟨fun x hx => hd.d x (List.mem_append_left _ hx)⟩
  have b1 := dv_bound (by decide : (0 : Int) < 256) d1
  rw [seg_len] at b1
  rw [e, dv_last, seg_len] at hA
  exact ⟨hA, b1, hd.d _ (by simp), d1⟩
def cSWord : Ctr := ⟨39, 86, [.arr .u64 16], [.arr .u8 32]⟩
theorem okSWord : CtrOK Try.prog pfns cSWord := by
  refine CtrOK.of okPT1 mixed (lf := 300) (d := 5) rfl fun w vs xs ha _ => ?_
  obtain ⟨v, a, rfl, rfl, ⟨la, -, ia⟩⟩ := open1 ha
  have hA := Lq_bd la ia
  have ax : 0 ≤ affX (Lq a) ∧ affX (Lq a) < PP := rmod _
  have ay : 0 ≤ affY (Lq a) ∧ affY (Lq a) < PP := rmod _
  have esg : pfns.g cSWord.j [a] = dg 256 32 (affY (Lq a) + H255 * (affX (Lq a) % 2)) := rfl
  rw [esg]
  have hP := PP_lt
  have hH := H255_lt
  have h31 := H31
  by_cases c : affX (Lq a) % 2 = 1
  · refine Go.Sx.Way.of (dec := [true]) (fs := [.need 79 [[.v 8, .v 9, .v 10, .v 11]], .call 16 79 [[.v 8, .v 9, .v 10, .v 11]] 4, .need 18 [[.v 0, .v 1, .v 2, .v 3], [.v 16, .v 17, .v 18, .v 19]], .call 20 18 [[.v 0, .v 1, .v 2, .v 3], [.v 16, .v 17, .v 18, .v 19]] 4, .need 12 [[.v 20, .v 21, .v 22, .v 23]], .call 24 12 [[.v 20, .v 21, .v 22, .v 23]] 4, .need 18 [[.v 4, .v 5, .v 6, .v 7], [.v 16, .v 17, .v 18, .v 19]], .call 28 18 [[.v 4, .v 5, .v 6, .v 7], [.v 16, .v 17, .v 18, .v 19]] 4, .need 12 [[.v 28, .v 29, .v 30, .v 31]], .call 32 12 [[.v 28, .v 29, .v 30, .v 31]] 4, .need 13 [[.v 32, .v 33, .v 34, .v 35]], .call 36 13 [[.v 32, .v 33, .v 34, .v 35]] 32, .bin 68 .and .u64 (.v 24) (.l 1), .cmp 69 .eql (.v 68) (.l 1), .cond 69 true, .bin 70 .or .u8 (.v 67) (.l 128)]) (refs := [.v 36, .v 37, .v 38, .v 39, .v 40, .v 41, .v 42, .v 43, .v 44, .v 45, .v 46, .v 47, .v 48, .v 49, .v 50, .v 51, .v 52, .v 53, .v 54, .v 55, .v 56, .v 57, .v 58, .v 59, .v 60, .v 61, .v 62, .v 63, .v 64, .v 65, .v 66, .v 70]) (by kernel_rfl) fun ρ hρ hd => ?_
    have ea := seg0 la hρ
    rw [← ea] at hA
    have b0 : 0 ≤ dv MM (seg ρ 0 4) ∧ dv MM (seg ρ 0 4) < WW := hA.1
    have b4 : 0 ≤ dv MM (seg ρ 4 4) ∧ dv MM (seg ρ 4 4) < WW := hA.2.1
    have b8 : 0 ≤ dv MM (seg ρ 8 4) ∧ dv MM (seg ρ 8 4) < WW := hA.2.2.1
    have eL : Lq a = ⟨dv MM (seg ρ 0 4), dv MM (seg ρ 4 4), dv MM (seg ρ 8 4), dv MM (seg ρ 12 4)⟩ := by rw [← ea]; rfl
    simp only [D_nil, D_add, D_sub, D_mul, D_and, D_or, D_xor, D_shl, D_shr, D_andNot, D_quo, D_rem, D_add_i64, D_sub_i64, D_mul_i64, D_add_u32, D_sub_u32, D_mul_u32, D_add_u8, D_sub_u8, D_mul_u8, D_eql, D_neq, D_lss, D_leq, D_gtr, D_geq, D_not, D_conv, D_eqs, D_call, D_cond, D_need, D_idx, D_sel, D_upd, D_shv, D_beq, List.map_cons, List.map_nil, Ref.den] at hd
    obtain ⟨h16, h20, h24, h28, h32, h36, h68, h69, h70, -⟩ := hd
    have s16 : seg ρ 16 4 = dg MM 4 (powZ (dv MM (seg ρ 8 4)) (PP - 2) 256) := seg_of h16 (dg_len _ _ _)
    obtain ⟨e16, b16⟩ := fv s16 b8
    have s20 : seg ρ 20 4 = dg MM 4 (timesZ (dv MM (seg ρ 0 4)) (dv MM (seg ρ 16 4))) := seg_of h20 (dg_len _ _ _)
    obtain ⟨e20, b20⟩ := ft s20 b0 b16
    have s24 : seg ρ 24 4 = dg MM 4 (dv MM (seg ρ 20 4) % PP) := seg_of h24 (dg_len _ _ _)
    obtain ⟨e24, b24⟩ := fn s24
    have s28 : seg ρ 28 4 = dg MM 4 (timesZ (dv MM (seg ρ 4 4)) (dv MM (seg ρ 16 4))) := seg_of h28 (dg_len _ _ _)
    obtain ⟨e28, b28⟩ := ft s28 b4 b16
    have s32 : seg ρ 32 4 = dg MM 4 (dv MM (seg ρ 28 4) % PP) := seg_of h32 (dg_len _ _ _)
    obtain ⟨e32, b32⟩ := fn s32
    have s36 : seg ρ 36 32 = dg 256 32 (dv MM (seg ρ 32 4) % PP) := seg_of h36 (dg_len _ _ _)
    have f24 : dv MM (seg ρ 24 4) = affX (Lq a) := by rw [e24, e20, e16, eL]; rfl
    have f32 : dv MM (seg ρ 32 4) = affY (Lq a) := by rw [e32, e28, e16, eL]; rfl
    rw [f32, Int.emod_eq_of_lt ay.1 ay.2] at s36
    have f0 : ρ 24 = affX (Lq a) % MM := by
      have := congrArg (fun l => l.getD 0 0) s24
      rw [← e24, f24] at this
      exact this
    have f68 : ρ 68 = affX (Lq a) % 2 := by
      rw [u_and 1 (by decide) (by rw [f0]; unfold MM; omega) (by rw [f0]; unfold MM; omega) rfl h68, f0]
      unfold MM; omega
    have g69 : ρ 69 = b2i (decide (affX (Lq a) % 2 = 1)) := h69.trans (b2i_congr (by rw [f68]))
    have dY : Dig 256 (seg ρ 36 32) := by rw [s36]; exact dg_dig (by decide) _ _
    have vY : dv 256 (seg ρ 36 32) = affY (Lq a) := by rw [s36]; exact dv_dg_of (by decide) ay.1 (by omega)
    obtain ⟨l1, l2, l3, l4⟩ := last_split vY dY
    have l1 : dv 256 (seg ρ 36 31) + 256 ^ 31 * ρ 67 = affY (Lq a) := l1
    have l3 : 0 ≤ ρ 67 ∧ ρ 67 < 256 := l3
    generalize affY (Lq a) = Y at *
    generalize affX (Lq a) = X at *
    have k69 := bit_true g69 (decide_eq_true c)
    have hlt : ρ 67 < 128 := by
      rcases Int.lt_or_le (ρ 67) 128 with h | h
      · exact h
      · have : 256 ^ 31 * 128 ≤ 256 ^ 31 * ρ 67 := Int.mul_le_mul_of_nonneg_left h (by omega)
        omega
    have e70 := or128 ⟨l3.1, hlt⟩ h70
    refine ⟨by simp only [G_nil, G_bin, G_cmp, G_not, G_conv, G_eqs, G_call, G_cond, G_need, G_idx, G_sel, G_upd, G_shv, G_beq, List.map_cons, List.map_nil, Ref.den]; exact ⟨trivial, trivial, trivial, trivial, trivial, trivial, k69, trivial⟩, ?_⟩
    show seg ρ 36 31 ++ [ρ 70] = _
    refine dg_eq (by decide) (by rw [List.length_append, seg_len]; rfl) ⟨fun x hx => ?_⟩ ?_
    · rcases List.mem_append.1 hx with hx | hx
      · exact l4.d x hx
      · rcases List.mem_singleton.1 hx with rfl
        rw [e70]; omega
    · rw [dv_last, seg_len, e70, c, ← h31.1]
      rw [← l1, Int.mul_add]; omega
  · refine Go.Sx.Way.of (dec := [false]) (fs := [.need 79 [[.v 8, .v 9, .v 10, .v 11]], .call 16 79 [[.v 8, .v 9, .v 10, .v 11]] 4, .need 18 [[.v 0, .v 1, .v 2, .v 3], [.v 16, .v 17, .v 18, .v 19]], .call 20 18 [[.v 0, .v 1, .v 2, .v 3], [.v 16, .v 17, .v 18, .v 19]] 4, .need 12 [[.v 20, .v 21, .v 22, .v 23]], .call 24 12 [[.v 20, .v 21, .v 22, .v 23]] 4, .need 18 [[.v 4, .v 5, .v 6, .v 7], [.v 16, .v 17, .v 18, .v 19]], .call 28 18 [[.v 4, .v 5, .v 6, .v 7], [.v 16, .v 17, .v 18, .v 19]] 4, .need 12 [[.v 28, .v 29, .v 30, .v 31]], .call 32 12 [[.v 28, .v 29, .v 30, .v 31]] 4, .need 13 [[.v 32, .v 33, .v 34, .v 35]], .call 36 13 [[.v 32, .v 33, .v 34, .v 35]] 32, .bin 68 .and .u64 (.v 24) (.l 1), .cmp 69 .eql (.v 68) (.l 1), .cond 69 false]) (refs := [.v 36, .v 37, .v 38, .v 39, .v 40, .v 41, .v 42, .v 43, .v 44, .v 45, .v 46, .v 47, .v 48, .v 49, .v 50, .v 51, .v 52, .v 53, .v 54, .v 55, .v 56, .v 57, .v 58, .v 59, .v 60, .v 61, .v 62, .v 63, .v 64, .v 65, .v 66, .v 67]) (by kernel_rfl) fun ρ hρ hd => ?_
    have ea := seg0 la hρ
    rw [← ea] at hA
    have b0 : 0 ≤ dv MM (seg ρ 0 4) ∧ dv MM (seg ρ 0 4) < WW := hA.1
    have b4 : 0 ≤ dv MM (seg ρ 4 4) ∧ dv MM (seg ρ 4 4) < WW := hA.2.1
    have b8 : 0 ≤ dv MM (seg ρ 8 4) ∧ dv MM (seg ρ 8 4) < WW := hA.2.2.1
    have eL : Lq a = ⟨dv MM (seg ρ 0 4), dv MM (seg ρ 4 4), dv MM (seg ρ 8 4), dv MM (seg ρ 12 4)⟩ := by rw [← ea]; rfl
    simp only [D_nil, D_add, D_sub, D_mul, D_and, D_or, D_xor, D_shl, D_shr, D_andNot, D_quo, D_rem, D_add_i64, D_sub_i64, D_mul_i64, D_add_u32, D_sub_u32, D_mul_u32, D_add_u8, D_sub_u8, D_mul_u8, D_eql, D_neq, D_lss, D_leq, D_gtr, D_geq, D_not, D_conv, D_eqs, D_call, D_cond, D_need, D_idx, D_sel, D_upd, D_shv, D_beq, List.map_cons, List.map_nil, Ref.den] at hd
    obtain ⟨h16, h20, h24, h28, h32, h36, h68, h69, -⟩ := hd
    have s16 : seg ρ 16 4 = dg MM 4 (powZ (dv MM (seg ρ 8 4)) (PP - 2) 256) := seg_of h16 (dg_len _ _ _)
    obtain ⟨e16, b16⟩ := fv s16 b8
    have s20 : seg ρ 20 4 = dg MM 4 (timesZ (dv MM (seg ρ 0 4)) (dv MM (seg ρ 16 4))) := seg_of h20 (dg_len _ _ _)
    obtain ⟨e20, b20⟩ := ft s20 b0 b16
    have s24 : seg ρ 24 4 = dg MM 4 (dv MM (seg ρ 20 4) % PP) := seg_of h24 (dg_len _ _ _)
    obtain ⟨e24, b24⟩ := fn s24
    have s28 : seg ρ 28 4 = dg MM 4 (timesZ (dv MM (seg ρ 4 4)) (dv MM (seg ρ 16 4))) := seg_of h28 (dg_len _ _ _)
    obtain ⟨e28, b28⟩ := ft s28 b4 b16
    have s32 : seg ρ 32 4 = dg MM 4 (dv MM (seg ρ 28 4) % PP) := seg_of h32 (dg_len _ _ _)
    obtain ⟨e32, b32⟩ := fn s32
    have s36 : seg ρ 36 32 = dg 256 32 (dv MM (seg ρ 32 4) % PP) := seg_of h36 (dg_len _ _ _)
    have f24 : dv MM (seg ρ 24 4) = affX (Lq a) := by rw [e24, e20, e16, eL]; rfl
    have f32 : dv MM (seg ρ 32 4) = affY (Lq a) := by rw [e32, e28, e16, eL]; rfl
    rw [f32, Int.emod_eq_of_lt ay.1 ay.2] at s36
    have f0 : ρ 24 = affX (Lq a) % MM := by
      have := congrArg (fun l => l.getD 0 0) s24
      rw [← e24, f24] at this
      exact this
    have f68 : ρ 68 = affX (Lq a) % 2 := by
      rw [u_and 1 (by decide) (by rw [f0]; unfold MM; omega) (by rw [f0]; unfold MM; omega) rfl h68, f0]
      unfold MM; omega
    have g69 : ρ 69 = b2i (decide (affX (Lq a) % 2 = 1)) := h69.trans (b2i_congr (by rw [f68]))
    have dY : Dig 256 (seg ρ 36 32) := by rw [s36]; exact dg_dig (by decide) _ _
    have vY : dv 256 (seg ρ 36 32) = affY (Lq a) := by rw [s36]; exact dv_dg_of (by decide) ay.1 (by omega)
    obtain ⟨l1, l2, l3, l4⟩ := last_split vY dY
    have l1 : dv 256 (seg ρ 36 31) + 256 ^ 31 * ρ 67 = affY (Lq a) := l1
    have l3 : 0 ≤ ρ 67 ∧ ρ 67 < 256 := l3
    generalize affY (Lq a) = Y at *
    generalize affX (Lq a) = X at *
    have k69 := bit_false g69 (decide_eq_false c)
    refine ⟨by simp only [G_nil, G_bin, G_cmp, G_not, G_conv, G_eqs, G_call, G_cond, G_need, G_idx, G_sel, G_upd, G_shv, G_beq, List.map_cons, List.map_nil, Ref.den]; exact ⟨trivial, trivial, trivial, trivial, trivial, trivial, k69, trivial⟩, ?_⟩
    show seg ρ 36 32 = _
    rw [s36, show X % 2 = 0 by omega, Int.mul_zero, Int.add_zero]
theorem pg20 (a : List Int) : pfns.g 20 [a] = if timesZ (rootT (dv MM a)) (rootT (dv MM a)) % PP = dv MM a % PP then dg MM 4 (eroot (dv MM a)) ++ [1] else [0, 0, 0, 0, 0] := by rw [show pfns.g 20 = sfns.g 20 from rfl, sg20, eroot]
theorem eroot_bdW (A : Int) : 0 ≤ eroot A ∧ eroot A < WW := by have h := eroot_bd A; generalize eroot A = r at *; have := PP_lt; omega
theorem dg_one : dg MM 4 1 = [1, 0, 0, 0] := by decide
def cSRead : Ctr := ⟨40, 87, [.arr .u8 32], [.arr .u64 16, .bool]⟩
theorem okSRead : CtrOK Try.prog pfns cSRead := by
  refine CtrOK.of okPT1 mixed (lf := 300) (d := 5) rfl fun w vs xs ha _ => ?_
  obtain ⟨v, a, rfl, rfl, ⟨la, -, ia⟩⟩ := open1 ha
  have bA := bd32 la ia
  have dA : Dig 256 a := dig8 ia
  have hP := PP_lt
  have hH := H255_lt
  have h31 := H31
  obtain ⟨A, hA⟩ : ∃ A, A = dv 256 a := ⟨_, rfl⟩
  rw [← hA] at bA
  have esg : pfns.g cSRead.j [a] = if decOK A then qL (decQ A) ++ [1] else List.replicate 16 0 ++ [0] := by rw [hA]; rfl
  rw [esg]
  obtain ⟨Y, hY⟩ : ∃ Y, Y = A % H255 := ⟨_, rfl⟩
  have bY : 0 ≤ Y ∧ Y < WW := by rw [hY]; have := Int.emod_nonneg A (b := H255) (by omega); have := Int.emod_lt_of_pos A hH.1; omega
  have eO : decOK A ↔ Y < PP ∧ rtOK (argQ Y) ∧ ¬ (A / H255 = 1 ∧ eroot (argQ Y) = 0) := by rw [hY]; exact Iff.rfl
  have eX : decX A = if A / H255 = 1 then minZ 0 (eroot (argQ Y)) else eroot (argQ Y) := by rw [hY]; rfl
  have eQ : decQ A = ⟨decX A, Y, 1, timesZ (decX A) Y⟩ := by rw [hY]; rfl
  have bE := eroot_bdW (argQ Y)
  have start : ∀ ρ : Nat → Int, (∀ i, i < 32 → ρ i = flat [a] i) → ∀ z1 z2 : Int, binZ .and .u8 (ρ 31) 128 = some z1 → binZ .andNot .u8 (ρ 31) 128 = some z2 → (z1 ≠ 0 ↔ A / H255 = 1) ∧ dv 256 (seg ρ 0 31 ++ [z2]) = Y := by
    intro ρ hρ z1 z2 g1 g2
    have ea := seg0 la hρ
    obtain ⟨l1, l2, l3, l4⟩ := last_split (ρ := ρ) (o := 0) (A := A) (by rw [ea, hA]) (by rw [ea]; exact dA)
    simp only [Nat.zero_add] at l1 l3
    have e1 := and128 l3 g1
    have e2 := andNot128 l3 g2
    have hq : A / H255 = ρ 31 / 128 ∧ A % H255 = dv 256 (seg ρ 0 31) + 256 ^ 31 * (ρ 31 % 128) := by
      have hr : A = H255 * (ρ 31 / 128) + (dv 256 (seg ρ 0 31) + 256 ^ 31 * (ρ 31 % 128)) := by
        have h5 := Int.emod_add_mul_ediv (ρ 31) 128
        rw [← l1, ← h31.1, Int.mul_assoc, ← Int.add_assoc, Int.add_comm (256 ^ 31 * (128 * (ρ 31 / 128))), Int.add_assoc, ← Int.mul_add, Int.add_comm (128 * (ρ 31 / 128)), h5]
      have hs : 0 ≤ dv 256 (seg ρ 0 31) + 256 ^ 31 * (ρ 31 % 128) ∧ dv 256 (seg ρ 0 31) + 256 ^ 31 * (ρ 31 % 128) < H255 := by
        have p0 : 0 ≤ (256 : Int) ^ 31 * (ρ 31 % 128) := Int.mul_nonneg (by omega) (by omega)
        have p1 : (256 : Int) ^ 31 * (ρ 31 % 128) ≤ 256 ^ 31 * 127 := Int.mul_le_mul_of_nonneg_left (by omega) (by omega)
        omega
      generalize dv 256 (seg ρ 0 31) + 256 ^ 31 * (ρ 31 % 128) = s at *
      rw [hr]
      exact ⟨by rw [Int.add_comm, Int.add_mul_ediv_left _ _ (by omega), Int.ediv_eq_zero_of_lt hs.1 hs.2, Int.zero_add], by rw [Int.add_comm, Int.add_mul_emod_self_left, Int.emod_eq_of_lt hs.1 hs.2]⟩
    refine ⟨?_, ?_⟩
    · rw [e1, hq.1]
      constructor
      · intro h; split at h
        · omega
        · exact absurd rfl h
      · intro h; rw [if_pos (by omega)]; decide
    · rw [dv_last, seg_len, e2, hY, hq.2]
  by_cases c1 : Y < PP
  · by_cases c2 : rtOK (argQ Y)
    · by_cases c3 : A / H255 = 1
      · by_cases c4 : eroot (argQ Y) = 0
        · refine Go.Sx.Way.of (dec := [false,false,true,true]) (fs := [.bin 32 .and .u8 (.v 31) (.l 128), .cmp 33 .neq (.v 32) (.l 0), .bin 34 .andNot .u8 (.v 31) (.l 128), .need 32 [[.v 0, .v 1, .v 2, .v 3, .v 4, .v 5, .v 6, .v 7, .v 8, .v 9, .v 10, .v 11, .v 12, .v 13, .v 14, .v 15, .v 16, .v 17, .v 18, .v 19, .v 20, .v 21, .v 22, .v 23, .v 24, .v 25, .v 26, .v 27, .v 28, .v 29, .v 30, .v 34]], .call 35 32 [[.v 0, .v 1, .v 2, .v 3, .v 4, .v 5, .v 6, .v 7, .v 8, .v 9, .v 10, .v 11, .v 12, .v 13, .v 14, .v 15, .v 16, .v 17, .v 18, .v 19, .v 20, .v 21, .v 22, .v 23, .v 24, .v 25, .v 26, .v 27, .v 28, .v 29, .v 30, .v 34]] 1, .not 36 (.v 35), .cond 36 false, .need 10 [[.v 0, .v 1, .v 2, .v 3, .v 4, .v 5, .v 6, .v 7, .v 8, .v 9, .v 10, .v 11, .v 12, .v 13, .v 14, .v 15, .v 16, .v 17, .v 18, .v 19, .v 20, .v 21, .v 22, .v 23, .v 24, .v 25, .v 26, .v 27, .v 28, .v 29, .v 30, .v 34]], .call 37 10 [[.v 0, .v 1, .v 2, .v 3, .v 4, .v 5, .v 6, .v 7, .v 8, .v 9, .v 10, .v 11, .v 12, .v 13, .v 14, .v 15, .v 16, .v 17, .v 18, .v 19, .v 20, .v 21, .v 22, .v 23, .v 24, .v 25, .v 26, .v 27, .v 28, .v 29, .v 30, .v 34]] 4, .need 18 [[.v 37, .v 38, .v 39, .v 40], [.v 37, .v 38, .v 39, .v 40]], .call 41 18 [[.v 37, .v 38, .v 39, .v 40], [.v 37, .v 38, .v 39, .v 40]] 4, .need 16 [[.v 41, .v 42, .v 43, .v 44], [.l 1, .l 0, .l 0, .l 0]], .call 45 16 [[.v 41, .v 42, .v 43, .v 44], [.l 1, .l 0, .l 0, .l 0]] 4, .need 18 [[.l 8496970652267935907, .l 31536524315187371, .l 10144147576115030168, .l 5909686906226998899], [.v 41, .v 42, .v 43, .v 44]], .call 49 18 [[.l 8496970652267935907, .l 31536524315187371, .l 10144147576115030168, .l 5909686906226998899], [.v 41, .v 42, .v 43, .v 44]] 4, .need 15 [[.v 49, .v 50, .v 51, .v 52], [.l 1, .l 0, .l 0, .l 0]], .call 53 15 [[.v 49, .v 50, .v 51, .v 52], [.l 1, .l 0, .l 0, .l 0]] 4, .need 79 [[.v 53, .v 54, .v 55, .v 56]], .call 57 79 [[.v 53, .v 54, .v 55, .v 56]] 4, .need 18 [[.v 45, .v 46, .v 47, .v 48], [.v 57, .v 58, .v 59, .v 60]], .call 61 18 [[.v 45, .v 46, .v 47, .v 48], [.v 57, .v 58, .v 59, .v 60]] 4, .need 20 [[.v 61, .v 62, .v 63, .v 64]], .call 65 20 [[.v 61, .v 62, .v 63, .v 64]] 5, .not 70 (.v 69), .cond 70 false, .cond 33 true, .eqs 71 [(.v 65, .l 0), (.v 66, .l 0), (.v 67, .l 0), (.v 68, .l 0)], .cond 71 true]) (refs := [.l 0, .l 0, .l 0, .l 0, .l 0, .l 0, .l 0, .l 0, .l 0, .l 0, .l 0, .l 0, .l 0, .l 0, .l 0, .l 0, .l 0]) (by kernel_rfl) fun ρ hρ hd => ?_
          simp only [D_nil, D_add, D_sub, D_mul, D_and, D_or, D_xor, D_shl, D_shr, D_andNot, D_quo, D_rem, D_add_i64, D_sub_i64, D_mul_i64, D_add_u32, D_sub_u32, D_mul_u32, D_add_u8, D_sub_u8, D_mul_u8, D_eql, D_neq, D_lss, D_leq, D_gtr, D_geq, D_not, D_conv, D_eqs, D_call, D_cond, D_need, D_idx, D_sel, D_upd, D_shv, D_beq, List.map_cons, List.map_nil, Ref.den] at hd
          obtain ⟨h32, h33, h34, h35, h36, h37, h41, h45, h49, h53, h57, h61, h65, h70, h71, -⟩ := hd
          obtain ⟨hq, hB⟩ := start ρ hρ _ _ h32 h34
          have s35 : ρ 35 = b2i (decide (dv 256 (seg ρ 0 31 ++ [ρ 34]) < PP)) := h35 0 (by decide)
          rw [hB] at s35
          have g33 : ρ 33 = b2i (decide (A / H255 = 1)) := h33.trans (b2i_congr hq)
          have s37 : seg ρ 37 4 = dg MM 4 (dv 256 (seg ρ 0 31 ++ [ρ 34])) := seg_of h37 (dg_len _ _ _)
          rw [hB] at s37
          have e37 : dv MM (seg ρ 37 4) = Y := by rw [s37, dvW bY.1 bY.2]
          have b37 : 0 ≤ dv MM (seg ρ 37 4) ∧ dv MM (seg ρ 37 4) < WW := by rw [e37]; exact bY
          have s41 : seg ρ 41 4 = dg MM 4 (timesZ (dv MM (seg ρ 37 4)) (dv MM (seg ρ 37 4))) := seg_of h41 (dg_len _ _ _)
          obtain ⟨e41, b41⟩ := ft s41 b37 b37
          have s45 : seg ρ 45 4 = dg MM 4 (minZ (dv MM (seg ρ 41 4)) (dv MM [1, 0, 0, 0])) := seg_of h45 (dg_len _ _ _)
          obtain ⟨e45, b45⟩ := fm s45 b41 b1
          have s49 : seg ρ 49 4 = dg MM 4 (timesZ (dv MM [8496970652267935907, 31536524315187371, 10144147576115030168, 5909686906226998899]) (dv MM (seg ρ 41 4))) := seg_of h49 (dg_len _ _ _)
          obtain ⟨e49, b49⟩ := ft s49 bD b41
          have s53 : seg ρ 53 4 = dg MM 4 (plusZ (dv MM (seg ρ 49 4)) (dv MM [1, 0, 0, 0])) := seg_of h53 (dg_len _ _ _)
          obtain ⟨e53, b53⟩ := fp s53 b49 b1
          have s57 : seg ρ 57 4 = dg MM 4 (powZ (dv MM (seg ρ 53 4)) (PP - 2) 256) := seg_of h57 (dg_len _ _ _)
          obtain ⟨e57, b57⟩ := fv s57 b53
          have s61 : seg ρ 61 4 = dg MM 4 (timesZ (dv MM (seg ρ 45 4)) (dv MM (seg ρ 57 4))) := seg_of h61 (dg_len _ _ _)
          obtain ⟨e61, b61⟩ := ft s61 b45 b57
          have e61' : dv MM (seg ρ 61 4) = argQ Y := by rw [e61, e57, e53, e49, e45, e41, e37, eD, e_one, argQ]
          have h65 : ∀ i, i < 5 → ρ (65 + i) = (if timesZ (rootT (argQ Y)) (rootT (argQ Y)) % PP = argQ Y % PP then dg MM 4 (eroot (argQ Y)) ++ [1] else [0, 0, 0, 0, 0]).getD i 0 := fun i hi => by have := h65 i hi; rw [show [ρ 61, ρ 62, ρ 63, ρ 64] = seg ρ 61 4 from rfl, pg20, e61'] at this; exact this
          have c2' := c2
          unfold rtOK at c2'
          simp only [if_pos c2'] at h65
          have s65 : seg ρ 65 4 = dg MM 4 (eroot (argQ Y)) := seg_of (fun i hi => by
            rw [h65 i (by omega)]
            simp only [List.getD_eq_getElem?_getD]
            rw [List.getElem?_append_left (by rw [dg_len]; omega)]) (dg_len _ _ _)
          have e65 : dv MM (seg ρ 65 4) = eroot (argQ Y) := by rw [s65, dvW bE.1 bE.2]
          have b65 : 0 ≤ dv MM (seg ρ 65 4) ∧ dv MM (seg ρ 65 4) < WW := by rw [e65]; exact bE
          have h69 : ρ 69 = 1 := by
            have := h65 4 (by decide)
            rw [this]
            simp only [List.getD_eq_getElem?_getD]
            rw [List.getElem?_append_right (by rw [dg_len]; omega), dg_len]; rfl
          have k70 := not_bit h70 h69
          have g35 : ρ 35 = 1 := by rw [s35, decide_eq_true c1]; rfl
          have k36 := not_bit h36 g35
          have q71 : ρ 71 = b2i (decide (seg ρ 65 4 = [0, 0, 0, 0])) := h71.trans (congrArg b2i eqs_lists)
          have k33 := bit_true g33 (decide_eq_true c3)
          have k71 := bit_true q71 (decide_eq_true (by rw [s65, c4]; decide))
          rw [if_neg (fun h => (eO.1 h).2.2 ⟨c3, c4⟩)]
          exact ⟨by simp only [G_nil, G_bin, G_cmp, G_not, G_conv, G_eqs, G_call, G_cond, G_need, G_idx, G_sel, G_upd, G_shv, G_beq, List.map_cons, List.map_nil, Ref.den]; exact ⟨trivial, k36, trivial, trivial, trivial, trivial, trivial, trivial, trivial, trivial, k70, k33, k71, trivial⟩, rfl⟩
        · refine Go.Sx.Way.of (dec := [false,false,true,false]) (fs := [.bin 32 .and .u8 (.v 31) (.l 128), .cmp 33 .neq (.v 32) (.l 0), .bin 34 .andNot .u8 (.v 31) (.l 128), .need 32 [[.v 0, .v 1, .v 2, .v 3, .v 4, .v 5, .v 6, .v 7, .v 8, .v 9, .v 10, .v 11, .v 12, .v 13, .v 14, .v 15, .v 16, .v 17, .v 18, .v 19, .v 20, .v 21, .v 22, .v 23, .v 24, .v 25, .v 26, .v 27, .v 28, .v 29, .v 30, .v 34]], .call 35 32 [[.v 0, .v 1, .v 2, .v 3, .v 4, .v 5, .v 6, .v 7, .v 8, .v 9, .v 10, .v 11, .v 12, .v 13, .v 14, .v 15, .v 16, .v 17, .v 18, .v 19, .v 20, .v 21, .v 22, .v 23, .v 24, .v 25, .v 26, .v 27, .v 28, .v 29, .v 30, .v 34]] 1, .not 36 (.v 35), .cond 36 false, .need 10 [[.v 0, .v 1, .v 2, .v 3, .v 4, .v 5, .v 6, .v 7, .v 8, .v 9, .v 10, .v 11, .v 12, .v 13, .v 14, .v 15, .v 16, .v 17, .v 18, .v 19, .v 20, .v 21, .v 22, .v 23, .v 24, .v 25, .v 26, .v 27, .v 28, .v 29, .v 30, .v 34]], .call 37 10 [[.v 0, .v 1, .v 2, .v 3, .v 4, .v 5, .v 6, .v 7, .v 8, .v 9, .v 10, .v 11, .v 12, .v 13, .v 14, .v 15, .v 16, .v 17, .v 18, .v 19, .v 20, .v 21, .v 22, .v 23, .v 24, .v 25, .v 26, .v 27, .v 28, .v 29, .v 30, .v 34]] 4, .need 18 [[.v 37, .v 38, .v 39, .v 40], [.v 37, .v 38, .v 39, .v 40]], .call 41 18 [[.v 37, .v 38, .v 39, .v 40], [.v 37, .v 38, .v 39, .v 40]] 4, .need 16 [[.v 41, .v 42, .v 43, .v 44], [.l 1, .l 0, .l 0, .l 0]], .call 45 16 [[.v 41, .v 42, .v 43, .v 44], [.l 1, .l 0, .l 0, .l 0]] 4, .need 18 [[.l 8496970652267935907, .l 31536524315187371, .l 10144147576115030168, .l 5909686906226998899], [.v 41, .v 42, .v 43, .v 44]], .call 49 18 [[.l 8496970652267935907, .l 31536524315187371, .l 10144147576115030168, .l 5909686906226998899], [.v 41, .v 42, .v 43, .v 44]] 4, .need 15 [[.v 49, .v 50, .v 51, .v 52], [.l 1, .l 0, .l 0, .l 0]], .call 53 15 [[.v 49, .v 50, .v 51, .v 52], [.l 1, .l 0, .l 0, .l 0]] 4, .need 79 [[.v 53, .v 54, .v 55, .v 56]], .call 57 79 [[.v 53, .v 54, .v 55, .v 56]] 4, .need 18 [[.v 45, .v 46, .v 47, .v 48], [.v 57, .v 58, .v 59, .v 60]], .call 61 18 [[.v 45, .v 46, .v 47, .v 48], [.v 57, .v 58, .v 59, .v 60]] 4, .need 20 [[.v 61, .v 62, .v 63, .v 64]], .call 65 20 [[.v 61, .v 62, .v 63, .v 64]] 5, .not 70 (.v 69), .cond 70 false, .cond 33 true, .eqs 71 [(.v 65, .l 0), (.v 66, .l 0), (.v 67, .l 0), (.v 68, .l 0)], .cond 71 false, .need 16 [[.l 0, .l 0, .l 0, .l 0], [.v 65, .v 66, .v 67, .v 68]], .call 72 16 [[.l 0, .l 0, .l 0, .l 0], [.v 65, .v 66, .v 67, .v 68]] 4, .need 18 [[.v 72, .v 73, .v 74, .v 75], [.v 37, .v 38, .v 39, .v 40]], .call 76 18 [[.v 72, .v 73, .v 74, .v 75], [.v 37, .v 38, .v 39, .v 40]] 4]) (refs := [.v 72, .v 73, .v 74, .v 75, .v 37, .v 38, .v 39, .v 40, .l 1, .l 0, .l 0, .l 0, .v 76, .v 77, .v 78, .v 79, .l 1]) (by kernel_rfl) fun ρ hρ hd => ?_
          simp only [D_nil, D_add, D_sub, D_mul, D_and, D_or, D_xor, D_shl, D_shr, D_andNot, D_quo, D_rem, D_add_i64, D_sub_i64, D_mul_i64, D_add_u32, D_sub_u32, D_mul_u32, D_add_u8, D_sub_u8, D_mul_u8, D_eql, D_neq, D_lss, D_leq, D_gtr, D_geq, D_not, D_conv, D_eqs, D_call, D_cond, D_need, D_idx, D_sel, D_upd, D_shv, D_beq, List.map_cons, List.map_nil, Ref.den] at hd
          obtain ⟨h32, h33, h34, h35, h36, h37, h41, h45, h49, h53, h57, h61, h65, h70, h71, h72, h76, -⟩ := hd
          obtain ⟨hq, hB⟩ := start ρ hρ _ _ h32 h34
          have s35 : ρ 35 = b2i (decide (dv 256 (seg ρ 0 31 ++ [ρ 34]) < PP)) := h35 0 (by decide)
          rw [hB] at s35
          have g33 : ρ 33 = b2i (decide (A / H255 = 1)) := h33.trans (b2i_congr hq)
          have s37 : seg ρ 37 4 = dg MM 4 (dv 256 (seg ρ 0 31 ++ [ρ 34])) := seg_of h37 (dg_len _ _ _)
          rw [hB] at s37
          have e37 : dv MM (seg ρ 37 4) = Y := by rw [s37, dvW bY.1 bY.2]
          have b37 : 0 ≤ dv MM (seg ρ 37 4) ∧ dv MM (seg ρ 37 4) < WW := by rw [e37]; exact bY
          have s41 : seg ρ 41 4 = dg MM 4 (timesZ (dv MM (seg ρ 37 4)) (dv MM (seg ρ 37 4))) := seg_of h41 (dg_len _ _ _)
          obtain ⟨e41, b41⟩ := ft s41 b37 b37
          have s45 : seg ρ 45 4 = dg MM 4 (minZ (dv MM (seg ρ 41 4)) (dv MM [1, 0, 0, 0])) := seg_of h45 (dg_len _ _ _)
          obtain ⟨e45, b45⟩ := fm s45 b41 b1
          have s49 : seg ρ 49 4 = dg MM 4 (timesZ (dv MM [8496970652267935907, 31536524315187371, 10144147576115030168, 5909686906226998899]) (dv MM (seg ρ 41 4))) := seg_of h49 (dg_len _ _ _)
          obtain ⟨e49, b49⟩ := ft s49 bD b41
          have s53 : seg ρ 53 4 = dg MM 4 (plusZ (dv MM (seg ρ 49 4)) (dv MM [1, 0, 0, 0])) := seg_of h53 (dg_len _ _ _)
          obtain ⟨e53, b53⟩ := fp s53 b49 b1
          have s57 : seg ρ 57 4 = dg MM 4 (powZ (dv MM (seg ρ 53 4)) (PP - 2) 256) := seg_of h57 (dg_len _ _ _)
          obtain ⟨e57, b57⟩ := fv s57 b53
          have s61 : seg ρ 61 4 = dg MM 4 (timesZ (dv MM (seg ρ 45 4)) (dv MM (seg ρ 57 4))) := seg_of h61 (dg_len _ _ _)
          obtain ⟨e61, b61⟩ := ft s61 b45 b57
          have e61' : dv MM (seg ρ 61 4) = argQ Y := by rw [e61, e57, e53, e49, e45, e41, e37, eD, e_one, argQ]
          have h65 : ∀ i, i < 5 → ρ (65 + i) = (if timesZ (rootT (argQ Y)) (rootT (argQ Y)) % PP = argQ Y % PP then dg MM 4 (eroot (argQ Y)) ++ [1] else [0, 0, 0, 0, 0]).getD i 0 := fun i hi => by have := h65 i hi; rw [show [ρ 61, ρ 62, ρ 63, ρ 64] = seg ρ 61 4 from rfl, pg20, e61'] at this; exact this
          have c2' := c2
          unfold rtOK at c2'
          simp only [if_pos c2'] at h65
          have s65 : seg ρ 65 4 = dg MM 4 (eroot (argQ Y)) := seg_of (fun i hi => by
            rw [h65 i (by omega)]
            simp only [List.getD_eq_getElem?_getD]
            rw [List.getElem?_append_left (by rw [dg_len]; omega)]) (dg_len _ _ _)
          have e65 : dv MM (seg ρ 65 4) = eroot (argQ Y) := by rw [s65, dvW bE.1 bE.2]
          have b65 : 0 ≤ dv MM (seg ρ 65 4) ∧ dv MM (seg ρ 65 4) < WW := by rw [e65]; exact bE
          have h69 : ρ 69 = 1 := by
            have := h65 4 (by decide)
            rw [this]
            simp only [List.getD_eq_getElem?_getD]
            rw [List.getElem?_append_right (by rw [dg_len]; omega), dg_len]; rfl
          have k70 := not_bit h70 h69
          have g35 : ρ 35 = 1 := by rw [s35, decide_eq_true c1]; rfl
          have k36 := not_bit h36 g35
          have s72 : seg ρ 72 4 = dg MM 4 (minZ (dv MM [0, 0, 0, 0]) (dv MM (seg ρ 65 4))) := seg_of h72 (dg_len _ _ _)
          obtain ⟨e72, b72⟩ := fm s72 bZ b65
          have s76 : seg ρ 76 4 = dg MM 4 (timesZ (dv MM (seg ρ 72 4)) (dv MM (seg ρ 37 4))) := seg_of h76 (dg_len _ _ _)
          obtain ⟨e76, b76⟩ := ft s76 b72 b37
          have q71 : ρ 71 = b2i (decide (seg ρ 65 4 = [0, 0, 0, 0])) := h71.trans (congrArg b2i eqs_lists)
          have k33 := bit_true g33 (decide_eq_true c3)
          have k71 := bit_false q71 (decide_eq_false (fun h => c4 (by rw [← e65, h]; decide)))
          rw [if_pos (eO.2 ⟨c1, c2, fun h => c4 h.2⟩)]
          refine ⟨by simp only [G_nil, G_bin, G_cmp, G_not, G_conv, G_eqs, G_call, G_cond, G_need, G_idx, G_sel, G_upd, G_shv, G_beq, List.map_cons, List.map_nil, Ref.den]; exact ⟨trivial, k36, trivial, trivial, trivial, trivial, trivial, trivial, trivial, trivial, k70, k33, k71, trivial, trivial, trivial⟩, ?_⟩
          have eq : qL (decQ A) = seg ρ 72 4 ++ (seg ρ 37 4 ++ ([1, 0, 0, 0] ++ seg ρ 76 4)) := by
            rw [eQ, eX, if_pos c3, s72, s37, s76, e72, e37, e65, e_nil]; simp only [qL, dg_one]
          rw [eq]; rfl
      · refine Go.Sx.Way.of (dec := [false,false,false]) (fs := [.bin 32 .and .u8 (.v 31) (.l 128), .cmp 33 .neq (.v 32) (.l 0), .bin 34 .andNot .u8 (.v 31) (.l 128), .need 32 [[.v 0, .v 1, .v 2, .v 3, .v 4, .v 5, .v 6, .v 7, .v 8, .v 9, .v 10, .v 11, .v 12, .v 13, .v 14, .v 15, .v 16, .v 17, .v 18, .v 19, .v 20, .v 21, .v 22, .v 23, .v 24, .v 25, .v 26, .v 27, .v 28, .v 29, .v 30, .v 34]], .call 35 32 [[.v 0, .v 1, .v 2, .v 3, .v 4, .v 5, .v 6, .v 7, .v 8, .v 9, .v 10, .v 11, .v 12, .v 13, .v 14, .v 15, .v 16, .v 17, .v 18, .v 19, .v 20, .v 21, .v 22, .v 23, .v 24, .v 25, .v 26, .v 27, .v 28, .v 29, .v 30, .v 34]] 1, .not 36 (.v 35), .cond 36 false, .need 10 [[.v 0, .v 1, .v 2, .v 3, .v 4, .v 5, .v 6, .v 7, .v 8, .v 9, .v 10, .v 11, .v 12, .v 13, .v 14, .v 15, .v 16, .v 17, .v 18, .v 19, .v 20, .v 21, .v 22, .v 23, .v 24, .v 25, .v 26, .v 27, .v 28, .v 29, .v 30, .v 34]], .call 37 10 [[.v 0, .v 1, .v 2, .v 3, .v 4, .v 5, .v 6, .v 7, .v 8, .v 9, .v 10, .v 11, .v 12, .v 13, .v 14, .v 15, .v 16, .v 17, .v 18, .v 19, .v 20, .v 21, .v 22, .v 23, .v 24, .v 25, .v 26, .v 27, .v 28, .v 29, .v 30, .v 34]] 4, .need 18 [[.v 37, .v 38, .v 39, .v 40], [.v 37, .v 38, .v 39, .v 40]], .call 41 18 [[.v 37, .v 38, .v 39, .v 40], [.v 37, .v 38, .v 39, .v 40]] 4, .need 16 [[.v 41, .v 42, .v 43, .v 44], [.l 1, .l 0, .l 0, .l 0]], .call 45 16 [[.v 41, .v 42, .v 43, .v 44], [.l 1, .l 0, .l 0, .l 0]] 4, .need 18 [[.l 8496970652267935907, .l 31536524315187371, .l 10144147576115030168, .l 5909686906226998899], [.v 41, .v 42, .v 43, .v 44]], .call 49 18 [[.l 8496970652267935907, .l 31536524315187371, .l 10144147576115030168, .l 5909686906226998899], [.v 41, .v 42, .v 43, .v 44]] 4, .need 15 [[.v 49, .v 50, .v 51, .v 52], [.l 1, .l 0, .l 0, .l 0]], .call 53 15 [[.v 49, .v 50, .v 51, .v 52], [.l 1, .l 0, .l 0, .l 0]] 4, .need 79 [[.v 53, .v 54, .v 55, .v 56]], .call 57 79 [[.v 53, .v 54, .v 55, .v 56]] 4, .need 18 [[.v 45, .v 46, .v 47, .v 48], [.v 57, .v 58, .v 59, .v 60]], .call 61 18 [[.v 45, .v 46, .v 47, .v 48], [.v 57, .v 58, .v 59, .v 60]] 4, .need 20 [[.v 61, .v 62, .v 63, .v 64]], .call 65 20 [[.v 61, .v 62, .v 63, .v 64]] 5, .not 70 (.v 69), .cond 70 false, .cond 33 false, .need 18 [[.v 65, .v 66, .v 67, .v 68], [.v 37, .v 38, .v 39, .v 40]], .call 71 18 [[.v 65, .v 66, .v 67, .v 68], [.v 37, .v 38, .v 39, .v 40]] 4]) (refs := [.v 65, .v 66, .v 67, .v 68, .v 37, .v 38, .v 39, .v 40, .l 1, .l 0, .l 0, .l 0, .v 71, .v 72, .v 73, .v 74, .l 1]) (by kernel_rfl) fun ρ hρ hd => ?_
        simp only [D_nil, D_add, D_sub, D_mul, D_and, D_or, D_xor, D_shl, D_shr, D_andNot, D_quo, D_rem, D_add_i64, D_sub_i64, D_mul_i64, D_add_u32, D_sub_u32, D_mul_u32, D_add_u8, D_sub_u8, D_mul_u8, D_eql, D_neq, D_lss, D_leq, D_gtr, D_geq, D_not, D_conv, D_eqs, D_call, D_cond, D_need, D_idx, D_sel, D_upd, D_shv, D_beq, List.map_cons, List.map_nil, Ref.den] at hd
        obtain ⟨h32, h33, h34, h35, h36, h37, h41, h45, h49, h53, h57, h61, h65, h70, h71, -⟩ := hd
        obtain ⟨hq, hB⟩ := start ρ hρ _ _ h32 h34
        have s35 : ρ 35 = b2i (decide (dv 256 (seg ρ 0 31 ++ [ρ 34]) < PP)) := h35 0 (by decide)
        rw [hB] at s35
        have g33 : ρ 33 = b2i (decide (A / H255 = 1)) := h33.trans (b2i_congr hq)
        have s37 : seg ρ 37 4 = dg MM 4 (dv 256 (seg ρ 0 31 ++ [ρ 34])) := seg_of h37 (dg_len _ _ _)
        rw [hB] at s37
        have e37 : dv MM (seg ρ 37 4) = Y := by rw [s37, dvW bY.1 bY.2]
        have b37 : 0 ≤ dv MM (seg ρ 37 4) ∧ dv MM (seg ρ 37 4) < WW := by rw [e37]; exact bY
        have s41 : seg ρ 41 4 = dg MM 4 (timesZ (dv MM (seg ρ 37 4)) (dv MM (seg ρ 37 4))) := seg_of h41 (dg_len _ _ _)
        obtain ⟨e41, b41⟩ := ft s41 b37 b37
        have s45 : seg ρ 45 4 = dg MM 4 (minZ (dv MM (seg ρ 41 4)) (dv MM [1, 0, 0, 0])) := seg_of h45 (dg_len _ _ _)
        obtain ⟨e45, b45⟩ := fm s45 b41 b1
        have s49 : seg ρ 49 4 = dg MM 4 (timesZ (dv MM [8496970652267935907, 31536524315187371, 10144147576115030168, 5909686906226998899]) (dv MM (seg ρ 41 4))) := seg_of h49 (dg_len _ _ _)
        obtain ⟨e49, b49⟩ := ft s49 bD b41
        have s53 : seg ρ 53 4 = dg MM 4 (plusZ (dv MM (seg ρ 49 4)) (dv MM [1, 0, 0, 0])) := seg_of h53 (dg_len _ _ _)
        obtain ⟨e53, b53⟩ := fp s53 b49 b1
        have s57 : seg ρ 57 4 = dg MM 4 (powZ (dv MM (seg ρ 53 4)) (PP - 2) 256) := seg_of h57 (dg_len _ _ _)
        obtain ⟨e57, b57⟩ := fv s57 b53
        have s61 : seg ρ 61 4 = dg MM 4 (timesZ (dv MM (seg ρ 45 4)) (dv MM (seg ρ 57 4))) := seg_of h61 (dg_len _ _ _)
        obtain ⟨e61, b61⟩ := ft s61 b45 b57
        have e61' : dv MM (seg ρ 61 4) = argQ Y := by rw [e61, e57, e53, e49, e45, e41, e37, eD, e_one, argQ]
        have h65 : ∀ i, i < 5 → ρ (65 + i) = (if timesZ (rootT (argQ Y)) (rootT (argQ Y)) % PP = argQ Y % PP then dg MM 4 (eroot (argQ Y)) ++ [1] else [0, 0, 0, 0, 0]).getD i 0 := fun i hi => by have := h65 i hi; rw [show [ρ 61, ρ 62, ρ 63, ρ 64] = seg ρ 61 4 from rfl, pg20, e61'] at this; exact this
        have c2' := c2
        unfold rtOK at c2'
        simp only [if_pos c2'] at h65
        have s65 : seg ρ 65 4 = dg MM 4 (eroot (argQ Y)) := seg_of (fun i hi => by
          rw [h65 i (by omega)]
          simp only [List.getD_eq_getElem?_getD]
          rw [List.getElem?_append_left (by rw [dg_len]; omega)]) (dg_len _ _ _)
        have e65 : dv MM (seg ρ 65 4) = eroot (argQ Y) := by rw [s65, dvW bE.1 bE.2]
        have b65 : 0 ≤ dv MM (seg ρ 65 4) ∧ dv MM (seg ρ 65 4) < WW := by rw [e65]; exact bE
        have h69 : ρ 69 = 1 := by
          have := h65 4 (by decide)
          rw [this]
          simp only [List.getD_eq_getElem?_getD]
          rw [List.getElem?_append_right (by rw [dg_len]; omega), dg_len]; rfl
        have k70 := not_bit h70 h69
        have g35 : ρ 35 = 1 := by rw [s35, decide_eq_true c1]; rfl
        have k36 := not_bit h36 g35
        have s71 : seg ρ 71 4 = dg MM 4 (timesZ (dv MM (seg ρ 65 4)) (dv MM (seg ρ 37 4))) := seg_of h71 (dg_len _ _ _)
        obtain ⟨e71, b71⟩ := ft s71 b65 b37
        have k33 := bit_false g33 (decide_eq_false c3)
        rw [if_pos (eO.2 ⟨c1, c2, fun h => c3 h.1⟩)]
        refine ⟨by simp only [G_nil, G_bin, G_cmp, G_not, G_conv, G_eqs, G_call, G_cond, G_need, G_idx, G_sel, G_upd, G_shv, G_beq, List.map_cons, List.map_nil, Ref.den]; exact ⟨trivial, k36, trivial, trivial, trivial, trivial, trivial, trivial, trivial, trivial, k70, k33, trivial, trivial⟩, ?_⟩
        have eq : qL (decQ A) = seg ρ 65 4 ++ (seg ρ 37 4 ++ ([1, 0, 0, 0] ++ seg ρ 71 4)) := by
          rw [eQ, eX, if_neg c3, s65, s37, s71, e65, e37]; simp only [qL, dg_one]
        rw [eq]; rfl
    · refine Go.Sx.Way.of (dec := [false,true]) (fs := [.bin 32 .and .u8 (.v 31) (.l 128), .cmp 33 .neq (.v 32) (.l 0), .bin 34 .andNot .u8 (.v 31) (.l 128), .need 32 [[.v 0, .v 1, .v 2, .v 3, .v 4, .v 5, .v 6, .v 7, .v 8, .v 9, .v 10, .v 11, .v 12, .v 13, .v 14, .v 15, .v 16, .v 17, .v 18, .v 19, .v 20, .v 21, .v 22, .v 23, .v 24, .v 25, .v 26, .v 27, .v 28, .v 29, .v 30, .v 34]], .call 35 32 [[.v 0, .v 1, .v 2, .v 3, .v 4, .v 5, .v 6, .v 7, .v 8, .v 9, .v 10, .v 11, .v 12, .v 13, .v 14, .v 15, .v 16, .v 17, .v 18, .v 19, .v 20, .v 21, .v 22, .v 23, .v 24, .v 25, .v 26, .v 27, .v 28, .v 29, .v 30, .v 34]] 1, .not 36 (.v 35), .cond 36 false, .need 10 [[.v 0, .v 1, .v 2, .v 3, .v 4, .v 5, .v 6, .v 7, .v 8, .v 9, .v 10, .v 11, .v 12, .v 13, .v 14, .v 15, .v 16, .v 17, .v 18, .v 19, .v 20, .v 21, .v 22, .v 23, .v 24, .v 25, .v 26, .v 27, .v 28, .v 29, .v 30, .v 34]], .call 37 10 [[.v 0, .v 1, .v 2, .v 3, .v 4, .v 5, .v 6, .v 7, .v 8, .v 9, .v 10, .v 11, .v 12, .v 13, .v 14, .v 15, .v 16, .v 17, .v 18, .v 19, .v 20, .v 21, .v 22, .v 23, .v 24, .v 25, .v 26, .v 27, .v 28, .v 29, .v 30, .v 34]] 4, .need 18 [[.v 37, .v 38, .v 39, .v 40], [.v 37, .v 38, .v 39, .v 40]], .call 41 18 [[.v 37, .v 38, .v 39, .v 40], [.v 37, .v 38, .v 39, .v 40]] 4, .need 16 [[.v 41, .v 42, .v 43, .v 44], [.l 1, .l 0, .l 0, .l 0]], .call 45 16 [[.v 41, .v 42, .v 43, .v 44], [.l 1, .l 0, .l 0, .l 0]] 4, .need 18 [[.l 8496970652267935907, .l 31536524315187371, .l 10144147576115030168, .l 5909686906226998899], [.v 41, .v 42, .v 43, .v 44]], .call 49 18 [[.l 8496970652267935907, .l 31536524315187371, .l 10144147576115030168, .l 5909686906226998899], [.v 41, .v 42, .v 43, .v 44]] 4, .need 15 [[.v 49, .v 50, .v 51, .v 52], [.l 1, .l 0, .l 0, .l 0]], .call 53 15 [[.v 49, .v 50, .v 51, .v 52], [.l 1, .l 0, .l 0, .l 0]] 4, .need 79 [[.v 53, .v 54, .v 55, .v 56]], .call 57 79 [[.v 53, .v 54, .v 55, .v 56]] 4, .need 18 [[.v 45, .v 46, .v 47, .v 48], [.v 57, .v 58, .v 59, .v 60]], .call 61 18 [[.v 45, .v 46, .v 47, .v 48], [.v 57, .v 58, .v 59, .v 60]] 4, .need 20 [[.v 61, .v 62, .v 63, .v 64]], .call 65 20 [[.v 61, .v 62, .v 63, .v 64]] 5, .not 70 (.v 69), .cond 70 true]) (refs := [.l 0, .l 0, .l 0, .l 0, .l 0, .l 0, .l 0, .l 0, .l 0, .l 0, .l 0, .l 0, .l 0, .l 0, .l 0, .l 0, .l 0]) (by kernel_rfl) fun ρ hρ hd => ?_
      simp only [D_nil, D_add, D_sub, D_mul, D_and, D_or, D_xor, D_shl, D_shr, D_andNot, D_quo, D_rem, D_add_i64, D_sub_i64, D_mul_i64, D_add_u32, D_sub_u32, D_mul_u32, D_add_u8, D_sub_u8, D_mul_u8, D_eql, D_neq, D_lss, D_leq, D_gtr, D_geq, D_not, D_conv, D_eqs, D_call, D_cond, D_need, D_idx, D_sel, D_upd, D_shv, D_beq, List.map_cons, List.map_nil, Ref.den] at hd
      obtain ⟨h32, h33, h34, h35, h36, h37, h41, h45, h49, h53, h57, h61, h65, h70, -⟩ := hd
      obtain ⟨hq, hB⟩ := start ρ hρ _ _ h32 h34
      have s35 : ρ 35 = b2i (decide (dv 256 (seg ρ 0 31 ++ [ρ 34]) < PP)) := h35 0 (by decide)
      rw [hB] at s35
      have s37 : seg ρ 37 4 = dg MM 4 (dv 256 (seg ρ 0 31 ++ [ρ 34])) := seg_of h37 (dg_len _ _ _)
      rw [hB] at s37
      have e37 : dv MM (seg ρ 37 4) = Y := by rw [s37, dvW bY.1 bY.2]
      have b37 : 0 ≤ dv MM (seg ρ 37 4) ∧ dv MM (seg ρ 37 4) < WW := by rw [e37]; exact bY
      have s41 : seg ρ 41 4 = dg MM 4 (timesZ (dv MM (seg ρ 37 4)) (dv MM (seg ρ 37 4))) := seg_of h41 (dg_len _ _ _)
      obtain ⟨e41, b41⟩ := ft s41 b37 b37
      have s45 : seg ρ 45 4 = dg MM 4 (minZ (dv MM (seg ρ 41 4)) (dv MM [1, 0, 0, 0])) := seg_of h45 (dg_len _ _ _)
      obtain ⟨e45, b45⟩ := fm s45 b41 b1
      have s49 : seg ρ 49 4 = dg MM 4 (timesZ (dv MM [8496970652267935907, 31536524315187371, 10144147576115030168, 5909686906226998899]) (dv MM (seg ρ 41 4))) := seg_of h49 (dg_len _ _ _)
      obtain ⟨e49, b49⟩ := ft s49 bD b41
      have s53 : seg ρ 53 4 = dg MM 4 (plusZ (dv MM (seg ρ 49 4)) (dv MM [1, 0, 0, 0])) := seg_of h53 (dg_len _ _ _)
      obtain ⟨e53, b53⟩ := fp s53 b49 b1
      have s57 : seg ρ 57 4 = dg MM 4 (powZ (dv MM (seg ρ 53 4)) (PP - 2) 256) := seg_of h57 (dg_len _ _ _)
      obtain ⟨e57, b57⟩ := fv s57 b53
      have s61 : seg ρ 61 4 = dg MM 4 (timesZ (dv MM (seg ρ 45 4)) (dv MM (seg ρ 57 4))) := seg_of h61 (dg_len _ _ _)
      obtain ⟨e61, b61⟩ := ft s61 b45 b57
      have e61' : dv MM (seg ρ 61 4) = argQ Y := by rw [e61, e57, e53, e49, e45, e41, e37, eD, e_one, argQ]
      have h65 : ∀ i, i < 5 → ρ (65 + i) = (if timesZ (rootT (argQ Y)) (rootT (argQ Y)) % PP = argQ Y % PP then dg MM 4 (eroot (argQ Y)) ++ [1] else [0, 0, 0, 0, 0]).getD i 0 := fun i hi => by have := h65 i hi; rw [show [ρ 61, ρ 62, ρ 63, ρ 64] = seg ρ 61 4 from rfl, pg20, e61'] at this; exact this
      have c2' := c2
      unfold rtOK at c2'
      simp only [if_neg c2'] at h65
      have h69 : ρ 69 = 0 := h65 4 (by decide)
      have k70 : decide (ρ 70 ≠ 0) = true := by rw [not_bit0 h70 h69]; rfl
      have g35 : ρ 35 = 1 := by rw [s35, decide_eq_true c1]; rfl
      have k36 := not_bit h36 g35
      rw [if_neg (fun h => c2 (eO.1 h).2.1)]
      exact ⟨by simp only [G_nil, G_bin, G_cmp, G_not, G_conv, G_eqs, G_call, G_cond, G_need, G_idx, G_sel, G_upd, G_shv, G_beq, List.map_cons, List.map_nil, Ref.den]; exact ⟨trivial, k36, trivial, trivial, trivial, trivial, trivial, trivial, trivial, trivial, k70, trivial⟩, rfl⟩
  · refine Go.Sx.Way.of (dec := [true]) (fs := [.bin 32 .and .u8 (.v 31) (.l 128), .cmp 33 .neq (.v 32) (.l 0), .bin 34 .andNot .u8 (.v 31) (.l 128), .need 32 [[.v 0, .v 1, .v 2, .v 3, .v 4, .v 5, .v 6, .v 7, .v 8, .v 9, .v 10, .v 11, .v 12, .v 13, .v 14, .v 15, .v 16, .v 17, .v 18, .v 19, .v 20, .v 21, .v 22, .v 23, .v 24, .v 25, .v 26, .v 27, .v 28, .v 29, .v 30, .v 34]], .call 35 32 [[.v 0, .v 1, .v 2, .v 3, .v 4, .v 5, .v 6, .v 7, .v 8, .v 9, .v 10, .v 11, .v 12, .v 13, .v 14, .v 15, .v 16, .v 17, .v 18, .v 19, .v 20, .v 21, .v 22, .v 23, .v 24, .v 25, .v 26, .v 27, .v 28, .v 29, .v 30, .v 34]] 1, .not 36 (.v 35), .cond 36 true]) (refs := [.l 0, .l 0, .l 0, .l 0, .l 0, .l 0, .l 0, .l 0, .l 0, .l 0, .l 0, .l 0, .l 0, .l 0, .l 0, .l 0, .l 0]) (by kernel_rfl) fun ρ hρ hd => ?_
    simp only [D_nil, D_add, D_sub, D_mul, D_and, D_or, D_xor, D_shl, D_shr, D_andNot, D_quo, D_rem, D_add_i64, D_sub_i64, D_mul_i64, D_add_u32, D_sub_u32, D_mul_u32, D_add_u8, D_sub_u8, D_mul_u8, D_eql, D_neq, D_lss, D_leq, D_gtr, D_geq, D_not, D_conv, D_eqs, D_call, D_cond, D_need, D_idx, D_sel, D_upd, D_shv, D_beq, List.map_cons, List.map_nil, Ref.den] at hd
    obtain ⟨h32, h33, h34, h35, h36, -⟩ := hd
    obtain ⟨hq, hB⟩ := start ρ hρ _ _ h32 h34
    have s35 : ρ 35 = b2i (decide (dv 256 (seg ρ 0 31 ++ [ρ 34]) < PP)) := h35 0 (by decide)
    rw [hB] at s35
    have g35 : ρ 35 = 0 := by rw [s35, decide_eq_false c1]; rfl
    have k36 : decide (ρ 36 ≠ 0) = true := by rw [not_bit0 h36 g35]; rfl
    rw [if_neg (fun h => c1 (eO.1 h).1)]
    exact ⟨by simp only [G_nil, G_bin, G_cmp, G_not, G_conv, G_eqs, G_call, G_cond, G_need, G_idx, G_sel, G_upd, G_shv, G_beq, List.map_cons, List.map_nil, Ref.den]; exact ⟨trivial, k36, trivial⟩, rfl⟩
#print axioms okSRead
end Go.Proofs.Ytfobnajgnnccmaa
