/- Points of the curve: what is shown of times. No condition. -/
import Derived.Test.YtfobnajgnnccmaaPk1
import Derived.Test.YtfobnajgnnccmaaSxV
namespace Go.Bx
theorem peight : (2 : Int) ^ 8 = 256 := by decide
theorem pseg_sp (ρ : Nat → Int) (a n m : Nat) : seg ρ a (n + m) = seg ρ a n ++ seg ρ (a + n) m := by
  unfold seg
  rw [List.range_add, List.map_append, List.map_map]
  congr 1
  exact List.map_congr_left fun i _ => by simp only [Function.comp_apply, Nat.add_assoc]
end Go.Bx
namespace Go.Proofs.Ytfobnajgnnccmaa
open Go.RowKit Go.Bx Go.Sx
set_option linter.unusedSimpArgs false
set_option maxRecDepth 100000
def cSTimes : Ctr := ⟨49, 84, [.arr .u64 16, .arr .u8 32], [.arr .u64 16]⟩
noncomputable def ptT : LoopT := ⟨[.any, .any, .c (.ptr 0 0), .c (.ptr 1 0), .c (.ptr 2 0), .c (.ptr 3 0), .c (.int .i64 (.v 0)), .any, .any, .any, .any, .any, .any, .any, .any, .any, .any, .any, .any, .any, .any, .any, .any, .any, .any, .any, .any, .any], [some ⟨59, [.int .u64 (.v 1), .int .u64 (.v 2), .int .u64 (.v 3), .int .u64 (.v 4), .int .u64 (.v 5), .int .u64 (.v 6), .int .u64 (.v 7), .int .u64 (.v 8), .int .u64 (.v 9), .int .u64 (.v 10), .int .u64 (.v 11), .int .u64 (.v 12), .int .u64 (.v 13), .int .u64 (.v 14), .int .u64 (.v 15), .int .u64 (.v 16)]⟩, some ⟨26, [.int .u8 (.v 17), .int .u8 (.v 18), .int .u8 (.v 19), .int .u8 (.v 20), .int .u8 (.v 21), .int .u8 (.v 22), .int .u8 (.v 23), .int .u8 (.v 24), .int .u8 (.v 25), .int .u8 (.v 26), .int .u8 (.v 27), .int .u8 (.v 28), .int .u8 (.v 29), .int .u8 (.v 30), .int .u8 (.v 31), .int .u8 (.v 32), .int .u8 (.v 33), .int .u8 (.v 34), .int .u8 (.v 35), .int .u8 (.v 36), .int .u8 (.v 37), .int .u8 (.v 38), .int .u8 (.v 39), .int .u8 (.v 40), .int .u8 (.v 41), .int .u8 (.v 42), .int .u8 (.v 43), .int .u8 (.v 44), .int .u8 (.v 45), .int .u8 (.v 46), .int .u8 (.v 47), .int .u8 (.v 48)]⟩, some ⟨59, [.int .u64 (.l 0), .int .u64 (.l 0), .int .u64 (.l 0), .int .u64 (.l 0), .int .u64 (.l 0), .int .u64 (.l 0), .int .u64 (.l 0), .int .u64 (.l 0), .int .u64 (.l 0), .int .u64 (.l 0), .int .u64 (.l 0), .int .u64 (.l 0), .int .u64 (.l 0), .int .u64 (.l 0), .int .u64 (.l 0), .int .u64 (.l 0)]⟩, some ⟨59, [.int .u64 (.v 49), .int .u64 (.v 50), .int .u64 (.v 51), .int .u64 (.v 52), .int .u64 (.v 53), .int .u64 (.v 54), .int .u64 (.v 55), .int .u64 (.v 56), .int .u64 (.v 57), .int .u64 (.v 58), .int .u64 (.v 59), .int .u64 (.v 60), .int .u64 (.v 61), .int .u64 (.v 62), .int .u64 (.v 63), .int .u64 (.v 64)]⟩], 65, 98, 0, [.l 255, .v 0, .v 1, .v 2, .v 3, .v 4, .v 5, .v 6, .v 7, .v 8, .v 9, .v 10, .v 11, .v 12, .v 13, .v 14, .v 15, .v 16, .v 17, .v 18, .v 19, .v 20, .v 21, .v 22, .v 23, .v 24, .v 25, .v 26, .v 27, .v 28, .v 29, .v 30, .v 31, .v 32, .v 33, .v 34, .v 35, .v 36, .v 37, .v 38, .v 39, .v 40, .v 41, .v 42, .v 43, .v 44, .v 45, .v 46, .v 47, .l 0, .l 0, .l 0, .l 0, .l 1, .l 0, .l 0, .l 0, .l 1, .l 0, .l 0, .l 0, .l 0, .l 0, .l 0, .l 0]⟩
noncomputable def ptB : Code := (Try.f49).body.getD .skip
theorem psplit48 {ρ ρ' : Nat → Int} (h : seg ρ 1 48 = seg ρ' 1 48) : seg ρ 1 16 = seg ρ' 1 16 ∧ seg ρ 17 32 = seg ρ' 17 32 := by
  rw [pseg_sp ρ 1 16 32, pseg_sp ρ' 1 16 32] at h
  exact List.append_inj h (by rw [seg_len, seg_len])
theorem pt_get (ρ : Nat → Int) {i : Nat} (hi : i < 65) : ρ i = ([ρ 0] ++ (seg ρ 1 48 ++ seg ρ 49 16)).getD i 0 := by
  rw [show [ρ 0] ++ (seg ρ 1 48 ++ seg ρ 49 16) = seg ρ 0 65 from rfl, seg_get hi, Nat.zero_add]
theorem pt_dig {ρ : Nat → Int} (hT : TOk ptT.slT ptT.memT ρ) : Dig 256 (seg ρ 17 32) := by
  have h2 : ∀ c ∈ (List.range 32).map (fun i => C.int .u8 (.v (17 + i))), C.inr ρ c := hT.m _ (List.mem_cons_of_mem _ (List.mem_cons_self ..))
  exact dig8 (seg_inr h2)
theorem pt_bd {ρ : Nat → Int} (hT : TOk ptT.slT ptT.memT ρ) : (Lq (seg ρ 1 16)).bd := by
  have h2 : ∀ c ∈ (List.range 16).map (fun i => C.int .u64 (.v (1 + i))), C.inr ρ c := hT.m _ (List.mem_cons_self ..)
  exact Lq_bd (seg_len ..) (seg_inr h2)
def ptI (ρ0 ρ : Nat → Int) : Prop :=
  seg ρ 1 48 = seg ρ0 1 48 ∧ -1 ≤ ρ 0 ∧ ρ 0 ≤ 255 ∧ (Lq (seg ρ0 1 16)).bd ∧ Dig 256 (seg ρ0 17 32) ∧ seg ρ 49 16 = qL (mulQ (Lq (seg ρ0 1 16)) (dv 256 (seg ρ0 17 32)) (255 - ρ 0).toNat)
theorem pt_after {ρ0 ρT : Nat → Int} {n : Nat} (hn : ρT 0 = n) (i2 : ρT 0 ≤ 255) (bA : (Lq (seg ρ0 1 16)).bd) (dN : Dig 256 (seg ρ0 17 32)) {O : List Int} (hO : O = qL (mulQ (Lq (seg ρ0 1 16)) (dv 256 (seg ρ0 17 32)) (255 - n + 1))) {x' : Nat → Int} (hx : x' = fun i => ([ρT 0 - 1] ++ (seg ρ0 1 48 ++ O)).getD i 0) : ptI ρ0 x' ∧ (x' 0 + 1).toNat < (ρT 0 + 1).toNat := by
  have x0 : x' 0 = ρT 0 - 1 := by rw [hx]; rfl
  have lO : O.length = 16 := by rw [hO]; exact qL_len _
  have xa : seg x' 1 48 = seg ρ0 1 48 := by
    have := seg_mid [ρT 0 - 1] (seg ρ0 1 48) O
    rw [seg_len] at this; rw [hx]; exact this
  have xb : seg x' 49 16 = O := by
    have := seg_end [ρT 0 - 1] (seg ρ0 1 48) O
    rw [seg_len, lO] at this; rw [hx]; exact this
  exact ⟨⟨xa, by rw [x0]; omega, by rw [x0]; omega, bA, dN, by rw [xb, hO, x0]; congr 2; omega⟩, by rw [x0]; omega⟩
theorem pt_go {cl : Code} (hb : loopAt 0 ptB = some cl) {ρ0 ρT : Nat → Int} (hI : ptI ρ0 ρT) (hge : 0 ≤ ρT 0) :
    ∃ e x', RoundEnd Try.prog pfns (callN Try.prog PT2 300 5) 300 cl ptT.slT ptT.memT ptT.m ρT e x' ∧ ((e = .normal ∧ ptI ρ0 x' ∧ (x' 0 + 1).toNat < (ρT 0 + 1).toNat) ∨ (e = .exit ptT.xid ∧ ∀ i, i < ptT.m → x' i = (pfns.g ptT.j [xs ptT.m ρ0]).getD i 0)) := by
  obtain ⟨i1, i2, i3, bA, dN, i4⟩ := hI
  obtain ⟨n, hn⟩ := Int.eq_ofNat_of_zero_le hge
  have hn255 : n ≤ 255 := by omega
  rw [hn, show (255 - (n : Int)).toNat = 255 - n by omega] at i4
  have bO := mulQ_bd bA (dv 256 (seg ρ0 17 32)) (255 - n)
  obtain ⟨O, hO⟩ : ∃ O, O = mulQ (Lq (seg ρ0 1 16)) (dv 256 (seg ρ0 17 32)) (255 - n) := ⟨_, rfl⟩
  rw [← hO] at i4 bO
  have hstep : mulQ (Lq (seg ρ0 1 16)) (dv 256 (seg ρ0 17 32)) (255 - n + 1) = if dv 256 (seg ρ0 17 32) / 2 ^ n % 2 = 1 then plusQ (plusQ O O) (Lq (seg ρ0 1 16)) else plusQ O O := by
    rw [hO]
    show (if _ / 2 ^ (255 - (255 - n)) % 2 = 1 then _ else _) = _
    rw [show 255 - (255 - n) = n by omega]
  by_cases hbt : dv 256 (seg ρ0 17 32) / 2 ^ n % 2 = 1
  · rw [if_pos hbt] at hstep
    have hk : roundB Try.prog PT2 300 5 (loopAt 0 ptB) ptT [true,true] none [.cmp 65 .geq (.v 0) (.l 0), .cond 65 true, .need 83 [[.v 49, .v 50, .v 51, .v 52, .v 53, .v 54, .v 55, .v 56, .v 57, .v 58, .v 59, .v 60, .v 61, .v 62, .v 63, .v 64], [.v 49, .v 50, .v 51, .v 52, .v 53, .v 54, .v 55, .v 56, .v 57, .v 58, .v 59, .v 60, .v 61, .v 62, .v 63, .v 64]], .call 66 83 [[.v 49, .v 50, .v 51, .v 52, .v 53, .v 54, .v 55, .v 56, .v 57, .v 58, .v 59, .v 60, .v 61, .v 62, .v 63, .v 64], [.v 49, .v 50, .v 51, .v 52, .v 53, .v 54, .v 55, .v 56, .v 57, .v 58, .v 59, .v 60, .v 61, .v 62, .v 63, .v 64]] 16, .bin 82 .quo .i64 (.v 0) (.l 8), .idx 82 32, .sel 83 [.v 17, .v 18, .v 19, .v 20, .v 21, .v 22, .v 23, .v 24, .v 25, .v 26, .v 27, .v 28, .v 29, .v 30, .v 31, .v 32, .v 33, .v 34, .v 35, .v 36, .v 37, .v 38, .v 39, .v 40, .v 41, .v 42, .v 43, .v 44, .v 45, .v 46, .v 47, .v 48] 82, .bin 84 .rem .i64 (.v 0) (.l 8), .idx 84 1000000, .shv 85 false .u8 (.v 83) 84, .bin 86 .and .u8 (.v 85) (.l 1), .cmp 87 .eql (.v 86) (.l 1), .cond 87 true, .need 83 [[.v 66, .v 67, .v 68, .v 69, .v 70, .v 71, .v 72, .v 73, .v 74, .v 75, .v 76, .v 77, .v 78, .v 79, .v 80, .v 81], [.v 1, .v 2, .v 3, .v 4, .v 5, .v 6, .v 7, .v 8, .v 9, .v 10, .v 11, .v 12, .v 13, .v 14, .v 15, .v 16]], .call 88 83 [[.v 66, .v 67, .v 68, .v 69, .v 70, .v 71, .v 72, .v 73, .v 74, .v 75, .v 76, .v 77, .v 78, .v 79, .v 80, .v 81], [.v 1, .v 2, .v 3, .v 4, .v 5, .v 6, .v 7, .v 8, .v 9, .v 10, .v 11, .v 12, .v 13, .v 14, .v 15, .v 16]] 16, .bin 104 .sub .i64 (.v 0) (.l 1)] [.v 104, .v 1, .v 2, .v 3, .v 4, .v 5, .v 6, .v 7, .v 8, .v 9, .v 10, .v 11, .v 12, .v 13, .v 14, .v 15, .v 16, .v 17, .v 18, .v 19, .v 20, .v 21, .v 22, .v 23, .v 24, .v 25, .v 26, .v 27, .v 28, .v 29, .v 30, .v 31, .v 32, .v 33, .v 34, .v 35, .v 36, .v 37, .v 38, .v 39, .v 40, .v 41, .v 42, .v 43, .v 44, .v 45, .v 46, .v 47, .v 48, .v 88, .v 89, .v 90, .v 91, .v 92, .v 93, .v 94, .v 95, .v 96, .v 97, .v 98, .v 99, .v 100, .v 101, .v 102, .v 103] = true := by kernel_rfl
    rw [hb] at hk
    refine ⟨.normal, _, RoundEnd.of (e := none) hk fun ρ hρ hd => ?_, .inl ⟨rfl, pt_after hn i3 bA dN (congrArg qL hstep).symm rfl⟩⟩
    have hρ : ∀ i, i < 65 → ρ i = ρT i := hρ
    have r0 : ρ 0 = (n : Int) := by rw [hρ 0 (by decide), hn]
    have sm : seg ρ 1 48 = seg ρ0 1 48 := (seg_congr fun i hi => hρ _ (by omega)).trans i1
    obtain ⟨sa, sn⟩ := psplit48 sm
    have so : seg ρ 49 16 = qL O := (seg_congr fun i hi => hρ _ (by omega)).trans i4
    simp only [D_nil, D_add, D_sub, D_mul, D_and, D_or, D_xor, D_shl, D_shr, D_andNot, D_quo, D_rem, D_add_i64, D_sub_i64, D_mul_i64, D_add_u32, D_sub_u32, D_mul_u32, D_add_u8, D_sub_u8, D_mul_u8, D_eql, D_neq, D_lss, D_leq, D_gtr, D_geq, D_not, D_conv, D_eqs, D_call, D_cond, D_need, D_idx, D_sel, D_upd, D_shv, D_beq, List.map_cons, List.map_nil, Ref.den, r0] at hd
    obtain ⟨h65, h66, h82, h83, h84, h85, h86, h87, h88, h104, -⟩ := hd
    have e82 : ρ 82 = (n : Int) / 8 := i_quo 8 (by decide) (by omega) (by omega) rfl h82
    have e84 : ρ 84 = (n : Int) % 8 := i_rem 8 (by decide) (by omega) rfl h84
    have e83 : ρ 83 = (seg ρ0 17 32).getD (n / 8) 0 := by
      have h : ρ 83 = (seg ρ 17 32).getD (ρ 82).toNat 0 := h83
      rw [h, sn, e82, show ((n : Int) / 8).toNat = n / 8 by omega]
    have e86 := shv_r (n % 8) (by show n % 8 ≤ 8; omega) h85 (by rw [e84]; omega)
    have e87 := k_and 1 (by decide) rfl h86
    rw [show (2 : Int) ^ 1 = 2 by decide] at e87
    have hbit := bit_of (w := 8) (l := seg ρ0 17 32) (i := n / 8) (r := n % 8) (by rw [peight]; exact dN) (by rw [seg_len]; omega) (by omega)
    rw [peight, show 8 * (n / 8) + n % 8 = n by omega] at hbit
    have e87' : ρ 86 = dv 256 (seg ρ0 17 32) / 2 ^ n % 2 := by rw [e87, e86, e83, hbit]
    have k65 := bit_true h65 (decide_eq_true (show (0 : Int) ≤ n by omega))
    have s66 : seg ρ 66 16 = qL (plusQ O O) := by
      have := seg_of (ρ := ρ) (n := 66) (g := qL (plusQ (Lq (seg ρ 49 16)) (Lq (seg ρ 49 16)))) h66 (qL_len _)
      rw [so, Lq_qL bO] at this; exact this
    have k87 := bit_true h87 (decide_eq_true (e87'.trans hbt))
    have s88 : seg ρ 88 16 = qL (plusQ (plusQ O O) (Lq (seg ρ0 1 16))) := by
      have := seg_of (ρ := ρ) (n := 88) (g := qL (plusQ (Lq (seg ρ 66 16)) (Lq (seg ρ 1 16)))) h88 (qL_len _)
      rw [s66, sa, Lq_qL (plusQ_bd bO bO)] at this; exact this
    refine ⟨?_, fun i hi => ?_⟩
    · simp only [G_nil, G_bin, G_cmp, G_not, G_conv, G_eqs, G_call, G_cond, G_need, G_idx, G_sel, G_upd, G_shv, G_beq, List.map_cons, List.map_nil, Ref.den, r0]
      refine ⟨k65, trivial, ⟨?_, ?_⟩, ⟨?_, ?_⟩, k87, trivial, trivial⟩
      · omega
      · omega
      · omega
      · omega
    · show ([ρ 104] ++ (seg ρ 1 48 ++ seg ρ 88 16)).getD i 0 = _
      rw [s88, sm, show ρ 104 = ρT 0 - 1 by rw [h104, IntKind.wrap_i64]; omega]
  · rw [if_neg hbt] at hstep
    have hk : roundB Try.prog PT2 300 5 (loopAt 0 ptB) ptT [true,false] none [.cmp 65 .geq (.v 0) (.l 0), .cond 65 true, .need 83 [[.v 49, .v 50, .v 51, .v 52, .v 53, .v 54, .v 55, .v 56, .v 57, .v 58, .v 59, .v 60, .v 61, .v 62, .v 63, .v 64], [.v 49, .v 50, .v 51, .v 52, .v 53, .v 54, .v 55, .v 56, .v 57, .v 58, .v 59, .v 60, .v 61, .v 62, .v 63, .v 64]], .call 66 83 [[.v 49, .v 50, .v 51, .v 52, .v 53, .v 54, .v 55, .v 56, .v 57, .v 58, .v 59, .v 60, .v 61, .v 62, .v 63, .v 64], [.v 49, .v 50, .v 51, .v 52, .v 53, .v 54, .v 55, .v 56, .v 57, .v 58, .v 59, .v 60, .v 61, .v 62, .v 63, .v 64]] 16, .bin 82 .quo .i64 (.v 0) (.l 8), .idx 82 32, .sel 83 [.v 17, .v 18, .v 19, .v 20, .v 21, .v 22, .v 23, .v 24, .v 25, .v 26, .v 27, .v 28, .v 29, .v 30, .v 31, .v 32, .v 33, .v 34, .v 35, .v 36, .v 37, .v 38, .v 39, .v 40, .v 41, .v 42, .v 43, .v 44, .v 45, .v 46, .v 47, .v 48] 82, .bin 84 .rem .i64 (.v 0) (.l 8), .idx 84 1000000, .shv 85 false .u8 (.v 83) 84, .bin 86 .and .u8 (.v 85) (.l 1), .cmp 87 .eql (.v 86) (.l 1), .cond 87 false, .bin 88 .sub .i64 (.v 0) (.l 1)] [.v 88, .v 1, .v 2, .v 3, .v 4, .v 5, .v 6, .v 7, .v 8, .v 9, .v 10, .v 11, .v 12, .v 13, .v 14, .v 15, .v 16, .v 17, .v 18, .v 19, .v 20, .v 21, .v 22, .v 23, .v 24, .v 25, .v 26, .v 27, .v 28, .v 29, .v 30, .v 31, .v 32, .v 33, .v 34, .v 35, .v 36, .v 37, .v 38, .v 39, .v 40, .v 41, .v 42, .v 43, .v 44, .v 45, .v 46, .v 47, .v 48, .v 66, .v 67, .v 68, .v 69, .v 70, .v 71, .v 72, .v 73, .v 74, .v 75, .v 76, .v 77, .v 78, .v 79, .v 80, .v 81] = true := by kernel_rfl
    rw [hb] at hk
    refine ⟨.normal, _, RoundEnd.of (e := none) hk fun ρ hρ hd => ?_, .inl ⟨rfl, pt_after hn i3 bA dN (congrArg qL hstep).symm rfl⟩⟩
    have hρ : ∀ i, i < 65 → ρ i = ρT i := hρ
    have r0 : ρ 0 = (n : Int) := by rw [hρ 0 (by decide), hn]
    have sm : seg ρ 1 48 = seg ρ0 1 48 := (seg_congr fun i hi => hρ _ (by omega)).trans i1
    obtain ⟨sa, sn⟩ := psplit48 sm
    have so : seg ρ 49 16 = qL O := (seg_congr fun i hi => hρ _ (by omega)).trans i4
    simp only [D_nil, D_add, D_sub, D_mul, D_and, D_or, D_xor, D_shl, D_shr, D_andNot, D_quo, D_rem, D_add_i64, D_sub_i64, D_mul_i64, D_add_u32, D_sub_u32, D_mul_u32, D_add_u8, D_sub_u8, D_mul_u8, D_eql, D_neq, D_lss, D_leq, D_gtr, D_geq, D_not, D_conv, D_eqs, D_call, D_cond, D_need, D_idx, D_sel, D_upd, D_shv, D_beq, List.map_cons, List.map_nil, Ref.den, r0] at hd
    obtain ⟨h65, h66, h82, h83, h84, h85, h86, h87, h88, -⟩ := hd
    have e82 : ρ 82 = (n : Int) / 8 := i_quo 8 (by decide) (by omega) (by omega) rfl h82
    have e84 : ρ 84 = (n : Int) % 8 := i_rem 8 (by decide) (by omega) rfl h84
    have e83 : ρ 83 = (seg ρ0 17 32).getD (n / 8) 0 := by
      have h : ρ 83 = (seg ρ 17 32).getD (ρ 82).toNat 0 := h83
      rw [h, sn, e82, show ((n : Int) / 8).toNat = n / 8 by omega]
    have e86 := shv_r (n % 8) (by show n % 8 ≤ 8; omega) h85 (by rw [e84]; omega)
    have e87 := k_and 1 (by decide) rfl h86
    rw [show (2 : Int) ^ 1 = 2 by decide] at e87
    have hbit := bit_of (w := 8) (l := seg ρ0 17 32) (i := n / 8) (r := n % 8) (by rw [peight]; exact dN) (by rw [seg_len]; omega) (by omega)
    rw [peight, show 8 * (n / 8) + n % 8 = n by omega] at hbit
    have e87' : ρ 86 = dv 256 (seg ρ0 17 32) / 2 ^ n % 2 := by rw [e87, e86, e83, hbit]
    have k65 := bit_true h65 (decide_eq_true (show (0 : Int) ≤ n by omega))
    have s66 : seg ρ 66 16 = qL (plusQ O O) := by
      have := seg_of (ρ := ρ) (n := 66) (g := qL (plusQ (Lq (seg ρ 49 16)) (Lq (seg ρ 49 16)))) h66 (qL_len _)
      rw [so, Lq_qL bO] at this; exact this
    have k87 := bit_false h87 (decide_eq_false fun q => hbt (e87'.symm.trans q))
    refine ⟨?_, fun i hi => ?_⟩
    · simp only [G_nil, G_bin, G_cmp, G_not, G_conv, G_eqs, G_call, G_cond, G_need, G_idx, G_sel, G_upd, G_shv, G_beq, List.map_cons, List.map_nil, Ref.den, r0]
      refine ⟨k65, trivial, ⟨?_, ?_⟩, ⟨?_, ?_⟩, k87, trivial⟩
      · omega
      · omega
      · omega
      · omega
    · show ([ρ 88] ++ (seg ρ 1 48 ++ seg ρ 66 16)).getD i 0 = _
      rw [s66, sm, show ρ 88 = ρT 0 - 1 by rw [h88, IntKind.wrap_i64]; omega]
theorem pt_end {cl : Code} (hb : loopAt 0 ptB = some cl) {ρ0 ρT : Nat → Int} (hI : ptI ρ0 ρT) (hlt : ¬ 0 ≤ ρT 0) :
    ∃ e x', RoundEnd Try.prog pfns (callN Try.prog PT2 300 5) 300 cl ptT.slT ptT.memT ptT.m ρT e x' ∧ ((e = .normal ∧ ptI ρ0 x' ∧ (x' 0 + 1).toNat < (ρT 0 + 1).toNat) ∨ (e = .exit ptT.xid ∧ ∀ i, i < ptT.m → x' i = (pfns.g ptT.j [xs ptT.m ρ0]).getD i 0)) := by
  obtain ⟨i1, i2, i3, bA, dN, i4⟩ := hI
  have hk : roundB Try.prog PT2 300 5 (loopAt 0 ptB) ptT [false] (some 0) [.cmp 65 .geq (.v 0) (.l 0), .cond 65 false] [.v 0, .v 1, .v 2, .v 3, .v 4, .v 5, .v 6, .v 7, .v 8, .v 9, .v 10, .v 11, .v 12, .v 13, .v 14, .v 15, .v 16, .v 17, .v 18, .v 19, .v 20, .v 21, .v 22, .v 23, .v 24, .v 25, .v 26, .v 27, .v 28, .v 29, .v 30, .v 31, .v 32, .v 33, .v 34, .v 35, .v 36, .v 37, .v 38, .v 39, .v 40, .v 41, .v 42, .v 43, .v 44, .v 45, .v 46, .v 47, .v 48, .v 49, .v 50, .v 51, .v 52, .v 53, .v 54, .v 55, .v 56, .v 57, .v 58, .v 59, .v 60, .v 61, .v 62, .v 63, .v 64] = true := by kernel_rfl
  rw [hb] at hk
  refine ⟨.exit 0, ρT, RoundEnd.of (e := some 0) hk fun ρ hρ hd => ?_, .inr ⟨rfl, fun i hi => ?_⟩⟩
  · have r0 : ρ 0 = ρT 0 := hρ 0 (by decide)
    simp only [D_nil, D_add, D_sub, D_mul, D_and, D_or, D_xor, D_shl, D_shr, D_andNot, D_quo, D_rem, D_add_i64, D_sub_i64, D_mul_i64, D_add_u32, D_sub_u32, D_mul_u32, D_add_u8, D_sub_u8, D_mul_u8, D_eql, D_neq, D_lss, D_leq, D_gtr, D_geq, D_not, D_conv, D_eqs, D_call, D_cond, D_need, D_idx, D_sel, D_upd, D_shv, D_beq, List.map_cons, List.map_nil, Ref.den, r0] at hd
    obtain ⟨h65, -⟩ := hd
    have k65 := bit_false h65 (decide_eq_false hlt)
    refine ⟨by simp only [G_nil, G_bin, G_cmp, G_not, G_conv, G_eqs, G_call, G_cond, G_need, G_idx, G_sel, G_upd, G_shv, G_beq, List.map_cons, List.map_nil, Ref.den]; exact ⟨k65, trivial⟩, fun i hi => ?_⟩
    show ([ρ 0] ++ (seg ρ 1 48 ++ seg ρ 49 16)).getD i 0 = _
    rw [← pt_get ρ hi, hρ i hi]
  · have hi : i < 65 := hi
    have e1 : ρT 0 = -1 := by omega
    show ρT i = (-1 :: (((Go.Sx.xs 65 ρ0).drop 1).take 48 ++ qL (mulQ (Lq (((Go.Sx.xs 65 ρ0).drop 1).take 16)) (dv 256 (((Go.Sx.xs 65 ρ0).drop 17).take 32)) 256))).getD i 0
    rw [xs_drop (by omega), xs_drop (by omega), xs_drop (by omega), pt_get ρT hi, e1, i1, i4, e1]
    rfl
theorem okSTimes : CtrOK Try.prog pfns cSTimes := by
  refine CtrOK.ofL (t := ptT) (k := 0) (fn := Try.f49) (body := ptB) okPT2 mixed (lf := 300) (d := 5) (by kernel_rfl) (by kernel_rfl) ?_ rfl fun w vs xs ha hp => ?_
  · intro cl hcl
    refine ⟨ptI, fun ρ => (ρ 0 + 1).toNat, fun ρ0 hT hp => ?_, fun ρ0 ρT hT hI => ?_⟩
    · have hp : (Go.Sx.xs 65 ρ0).getD 0 0 = 255 ∧ ((Go.Sx.xs 65 ρ0).drop 49).take 16 = sp0 := hp
      rw [xs_get (by omega), xs_drop (by omega)] at hp
      obtain ⟨p1, p2⟩ := hp
      exact ⟨rfl, by omega, by omega, pt_bd hT, pt_dig hT, by rw [p1, p2]; show sp0 = qL ⟨0, 1, 1, 0⟩; decide⟩
    · by_cases h : 0 ≤ ρT 0
      · exact pt_go hcl hI h
      · exact pt_end hcl hI h
  · obtain ⟨v, u, a, b, rfl, rfl, ⟨la, -, ia⟩, ⟨lb, -, ib⟩⟩ := open2 ha
    refine WayL.of (dec := []) (fs := [.need 98 [[.l 255, .v 0, .v 1, .v 2, .v 3, .v 4, .v 5, .v 6, .v 7, .v 8, .v 9, .v 10, .v 11, .v 12, .v 13, .v 14, .v 15, .v 16, .v 17, .v 18, .v 19, .v 20, .v 21, .v 22, .v 23, .v 24, .v 25, .v 26, .v 27, .v 28, .v 29, .v 30, .v 31, .v 32, .v 33, .v 34, .v 35, .v 36, .v 37, .v 38, .v 39, .v 40, .v 41, .v 42, .v 43, .v 44, .v 45, .v 46, .v 47, .l 0, .l 0, .l 0, .l 0, .l 1, .l 0, .l 0, .l 0, .l 1, .l 0, .l 0, .l 0, .l 0, .l 0, .l 0, .l 0]], .call 48 98 [[.l 255, .v 0, .v 1, .v 2, .v 3, .v 4, .v 5, .v 6, .v 7, .v 8, .v 9, .v 10, .v 11, .v 12, .v 13, .v 14, .v 15, .v 16, .v 17, .v 18, .v 19, .v 20, .v 21, .v 22, .v 23, .v 24, .v 25, .v 26, .v 27, .v 28, .v 29, .v 30, .v 31, .v 32, .v 33, .v 34, .v 35, .v 36, .v 37, .v 38, .v 39, .v 40, .v 41, .v 42, .v 43, .v 44, .v 45, .v 46, .v 47, .l 0, .l 0, .l 0, .l 0, .l 1, .l 0, .l 0, .l 0, .l 1, .l 0, .l 0, .l 0, .l 0, .l 0, .l 0, .l 0]] 65]) (refs := [.v 97, .v 98, .v 99, .v 100, .v 101, .v 102, .v 103, .v 104, .v 105, .v 106, .v 107, .v 108, .v 109, .v 110, .v 111, .v 112]) (by kernel_rfl) fun ρ hρ hd => ?_
    have ea : seg ρ 0 16 = a := seg_of (fun i hi => by
      rw [Nat.zero_add, hρ i (by show i < 48; omega)]
      simp only [flat, List.flatten_cons, List.flatten_nil, List.append_nil, List.getD_eq_getElem?_getD]
      rw [List.getElem?_append_left (by omega)]) la
    have eb : seg ρ 16 32 = b := seg_of (fun i hi => by
      rw [hρ (16 + i) (by show 16 + i < 48; omega)]
      simp only [flat, List.flatten_cons, List.flatten_nil, List.append_nil, List.getD_eq_getElem?_getD]
      rw [List.getElem?_append_right (by omega), la, Nat.add_sub_cancel_left]) lb
    simp only [D_nil, D_add, D_sub, D_mul, D_and, D_or, D_xor, D_shl, D_shr, D_andNot, D_quo, D_rem, D_add_i64, D_sub_i64, D_mul_i64, D_add_u32, D_sub_u32, D_mul_u32, D_add_u8, D_sub_u8, D_mul_u8, D_eql, D_neq, D_lss, D_leq, D_gtr, D_geq, D_not, D_conv, D_eqs, D_call, D_cond, D_need, D_idx, D_sel, D_upd, D_shv, D_beq, List.map_cons, List.map_nil, Ref.den] at hd
    obtain ⟨h48, -⟩ := hd
    have s48 : ∀ i, i < 65 → ρ (48 + i) = ([-1] ++ ((seg ρ 0 16 ++ seg ρ 16 32) ++ qL (mulQ (Lq (seg ρ 0 16)) (dv 256 (seg ρ 16 32)) 256))).getD i 0 := fun i hi => h48 i hi
    rw [ea, eb] at s48
    refine ⟨?_, ?_⟩
    · simp only [G_nil, G_bin, G_cmp, G_not, G_conv, G_eqs, G_call, G_cond, G_need, G_idx, G_sel, G_upd, G_shv, G_beq, List.map_cons, List.map_nil, Ref.den]
      exact ⟨⟨rfl, rfl⟩, trivial⟩
    · show seg ρ 97 16 = qL (mulQ (Lq a) (dv 256 b) 256)
      have l2 : (a ++ b).length = 48 := by rw [List.length_append]; omega
      have := seg_end [-1] (a ++ b) (qL (mulQ (Lq a) (dv 256 b) 256))
      rw [l2, qL_len] at this
      rw [← this]
      exact seg_congr fun i hi => by rw [show 97 + i = 48 + (49 + i) by omega]; exact s48 _ (by omega)
#print axioms okSTimes
end Go.Proofs.Ytfobnajgnnccmaa
