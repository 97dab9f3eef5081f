/- Numbers modulo L, the paper's own functions: what is shown of minus. No condition. -/
import Derived.Test.YtokndemdmkaofaaSk1
import Derived.Test.YtokndemdmkaofaaSxS2
import Derived.Test.YtokndemdmkaofaaSxN
import Derived.Test.YtokndemdmkaofaaSxV
import Derived.Test.YtokndemdmkaofaaPlainM
namespace Go.Bx
theorem dig8s {l : List Int} (h : ∀ z ∈ l, Go.Sx.InR .u8 z) : Dig 256 l := ⟨fun z hz => Go.Sx.in8 (h z hz)⟩
end Go.Bx
namespace Go.Proofs.Ytokndemdmkaofaa
open Go.RowKit Go.Bx Go.Sx
set_option linter.unusedSimpArgs false
set_option maxRecDepth 100000
def cMinus : Ctr := ⟨53, 51, [.arr .u8 32, .arr .u8 32], [.arr .u8 32]⟩
noncomputable def minT : LoopT := ⟨[.any, .any, .c (.ptr 0 0), .c (.ptr 1 0), .c (.ptr 2 0), .c (.int .i64 (.v 0)), .c (.int .i64 (.v 1)), .any, .any, .any, .any, .any, .any, .any, .any, .any, .any, .any, .any, .any, .any, .any, .any, .any, .any, .any, .any, .any, .any, .any, .any, .any], [some ⟨33, [.int .u8 (.v 2), .int .u8 (.v 3), .int .u8 (.v 4), .int .u8 (.v 5), .int .u8 (.v 6), .int .u8 (.v 7), .int .u8 (.v 8), .int .u8 (.v 9), .int .u8 (.v 10), .int .u8 (.v 11), .int .u8 (.v 12), .int .u8 (.v 13), .int .u8 (.v 14), .int .u8 (.v 15), .int .u8 (.v 16), .int .u8 (.v 17), .int .u8 (.v 18), .int .u8 (.v 19), .int .u8 (.v 20), .int .u8 (.v 21), .int .u8 (.v 22), .int .u8 (.v 23), .int .u8 (.v 24), .int .u8 (.v 25), .int .u8 (.v 26), .int .u8 (.v 27), .int .u8 (.v 28), .int .u8 (.v 29), .int .u8 (.v 30), .int .u8 (.v 31), .int .u8 (.v 32), .int .u8 (.v 33)]⟩, some ⟨33, [.int .u8 (.v 34), .int .u8 (.v 35), .int .u8 (.v 36), .int .u8 (.v 37), .int .u8 (.v 38), .int .u8 (.v 39), .int .u8 (.v 40), .int .u8 (.v 41), .int .u8 (.v 42), .int .u8 (.v 43), .int .u8 (.v 44), .int .u8 (.v 45), .int .u8 (.v 46), .int .u8 (.v 47), .int .u8 (.v 48), .int .u8 (.v 49), .int .u8 (.v 50), .int .u8 (.v 51), .int .u8 (.v 52), .int .u8 (.v 53), .int .u8 (.v 54), .int .u8 (.v 55), .int .u8 (.v 56), .int .u8 (.v 57), .int .u8 (.v 58), .int .u8 (.v 59), .int .u8 (.v 60), .int .u8 (.v 61), .int .u8 (.v 62), .int .u8 (.v 63), .int .u8 (.v 64), .int .u8 (.v 65)]⟩, some ⟨33, [.int .u8 (.l 0), .int .u8 (.l 0), .int .u8 (.l 0), .int .u8 (.l 0), .int .u8 (.l 0), .int .u8 (.l 0), .int .u8 (.l 0), .int .u8 (.l 0), .int .u8 (.l 0), .int .u8 (.l 0), .int .u8 (.l 0), .int .u8 (.l 0), .int .u8 (.l 0), .int .u8 (.l 0), .int .u8 (.l 0), .int .u8 (.l 0), .int .u8 (.l 0), .int .u8 (.l 0), .int .u8 (.l 0), .int .u8 (.l 0), .int .u8 (.l 0), .int .u8 (.l 0), .int .u8 (.l 0), .int .u8 (.l 0), .int .u8 (.l 0), .int .u8 (.l 0), .int .u8 (.l 0), .int .u8 (.l 0), .int .u8 (.l 0), .int .u8 (.l 0), .int .u8 (.l 0), .int .u8 (.l 0)]⟩], 66, 31, 0, [.l 0, .l 0, .v 0, .v 1, .v 2, .v 3, .v 4, .v 5, .v 6, .v 7, .v 8, .v 9, .v 10, .v 11, .v 12, .v 13, .v 14, .v 15, .v 16, .v 17, .v 18, .v 19, .v 20, .v 21, .v 22, .v 23, .v 24, .v 25, .v 26, .v 27, .v 28, .v 29, .v 30, .v 31, .v 32, .v 33, .v 34, .v 35, .v 36, .v 37, .v 38, .v 39, .v 40, .v 41, .v 42, .v 43, .v 44, .v 45, .v 46, .v 47, .v 48, .v 49, .v 50, .v 51, .v 52, .v 53, .v 54, .v 55, .v 56, .v 57, .v 58, .v 59, .v 60, .v 61, .v 62, .v 63]⟩
noncomputable def minB : Code := (Try.f53).body.getD .skip
def minI (ρ0 ρ : Nat → Int) : Prop :=
  (ρ 0 = 0 ∨ ρ 0 = 1) ∧ 0 ≤ ρ 1 ∧ ρ 1 ≤ 32 ∧ seg ρ 34 32 = seg ρ0 34 32 ∧ dv 256 (seg ρ 2 32) = dv 256 (seg ρ0 2 32) - dv 256 ((seg ρ0 34 32).take (ρ 1).toNat) + ρ 0 * 256 ^ (ρ 1).toNat
theorem no_ctr : ∀ c ∈ ([] : List Ctr), CtrOK Try.prog sfns c := fun _ h => by cases h
theorem min_list (ρ : Nat → Int) : seg ρ 0 66 = [ρ 0, ρ 1] ++ (seg ρ 2 32 ++ seg ρ 34 32) := rfl
theorem min_get (ρ : Nat → Int) {i : Nat} (hi : i < 66) : ρ i = ([ρ 0, ρ 1] ++ (seg ρ 2 32 ++ seg ρ 34 32)).getD i 0 := by
  rw [← min_list, seg_get hi, Nat.zero_add]
theorem min_dig {ρ : Nat → Int} (hT : TOk minT.slT minT.memT ρ) : Dig 256 (seg ρ 2 32) ∧ Dig 256 (seg ρ 34 32) := by
  have h1 : ∀ c ∈ (List.range 32).map (fun i => C.int .u8 (.v (2 + i))), C.inr ρ c := hT.m _ (List.mem_cons_self ..)
  have h2 : ∀ c ∈ (List.range 32).map (fun i => C.int .u8 (.v (34 + i))), C.inr ρ c := hT.m _ (List.mem_cons_of_mem _ (List.mem_cons_self ..))
  exact ⟨dig8s (seg_inr h1), dig8s (seg_inr h2)⟩
/-- The state behind a round. -/
theorem min_after {ρ0 ρT : Nat → Int} (hI : minI ρ0 ρT) (hlt : ρT 1 < 32) {c v : Int} (hc : c = 0 ∨ c = 1) (hv : v = (seg ρT 2 32).getD (ρT 1).toNat 0 - (seg ρT 34 32).getD (ρT 1).toNat 0 - ρT 0 + 256 * c)
    {x' : Nat → Int} (hx : x' = fun j => ([c, ρT 1 + 1] ++ ((seg ρT 2 32).set (ρT 1).toNat v ++ seg ρT 34 32)).getD j 0) : minI ρ0 x' ∧ (32 - x' 1).toNat < (32 - ρT 1).toNat := by
  obtain ⟨i1, i2, i3, i4, i5⟩ := hI
  obtain ⟨n, hn⟩ := Int.eq_ofNat_of_zero_le i2
  have hn' : (ρT 1).toNat = n := by omega
  have l1 : (seg ρT 2 32).length = 32 := seg_len _ _ _
  have l2 : (seg ρT 34 32).length = 32 := seg_len _ _ _
  have lA : ((seg ρT 2 32).set (ρT 1).toNat v).length = 32 := by rw [List.length_set, l1]
  have x0 : x' 0 = c := by rw [hx]; rfl
  have x1 : x' 1 = ρT 1 + 1 := by rw [hx]; rfl
  have xa : seg x' 2 32 = (seg ρT 2 32).set (ρT 1).toNat v := by
    have := seg_mid [c, ρT 1 + 1] ((seg ρT 2 32).set (ρT 1).toNat v) (seg ρT 34 32)
    rw [lA] at this; rw [hx]; exact this
  have xb : seg x' 34 32 = seg ρT 34 32 := by
    have := seg_end [c, ρT 1 + 1] ((seg ρT 2 32).set (ρT 1).toNat v) (seg ρT 34 32)
    rw [lA, l2] at this; rw [hx]; exact this
  refine ⟨⟨by rw [x0]; exact hc, by rw [x1]; omega, by rw [x1]; omega, by rw [xb, i4], ?_⟩, by rw [x1]; omega⟩
  have e1 : (ρT 1 + 1).toNat = n + 1 := by omega
  rw [xa, x0, x1, e1, hn', dv_set (by omega), hv, hn', i5, hn', i4, dv_take (by rw [seg_len]; omega), Int.pow_succ]
  generalize (256 : Int) ^ n = w
  generalize (seg ρ0 34 32).getD n 0 = b
  generalize (seg ρT 2 32).getD n 0 = a
  grind
theorem min_go {cl : Code} (hb : loopAt 0 minB = some cl) {ρ0 ρT : Nat → Int} (hT : TOk minT.slT minT.memT ρT) (hI : minI ρ0 ρT) (hlt : ρT 1 < 32) :
    ∃ e x', RoundEnd Try.prog sfns (callN Try.prog [] 300 5) 300 cl minT.slT minT.memT minT.m ρT e x' ∧ ((e = .normal ∧ minI ρ0 x' ∧ (32 - x' 1).toNat < (32 - ρT 1).toNat) ∨ (e = .exit minT.xid ∧ ∀ i, i < minT.m → x' i = (sfns.g minT.j [xs minT.m ρ0]).getD i 0)) := by
  obtain ⟨dA, dB⟩ := min_dig hT
  obtain ⟨i1, i2, i3, i4, i5⟩ := id hI
  obtain ⟨n, hn⟩ := Int.eq_ofNat_of_zero_le i2
  have hn' : (ρT 1).toNat = n := by omega
  have l1 : (seg ρT 2 32).length = 32 := seg_len _ _ _
  have l2 : (seg ρT 34 32).length = 32 := seg_len _ _ _
  have a0 : 0 ≤ (seg ρT 2 32).getD n 0 ∧ (seg ρT 2 32).getD n 0 < 256 := dA.d _ (getD_mem (by omega))
  have b0 : 0 ≤ (seg ρT 34 32).getD n 0 ∧ (seg ρT 34 32).getD n 0 < 256 := dB.d _ (getD_mem (by omega))
  by_cases hneg : (seg ρT 2 32).getD n 0 - (seg ρT 34 32).getD n 0 - ρT 0 < 0
  · have hk : roundB Try.prog [] 300 5 (loopAt 0 minB) minT [true,true] none [.cmp 66 .lss (.v 1) (.l 32), .cond 66 true, .idx 1 32, .sel 67 [.v 2, .v 3, .v 4, .v 5, .v 6, .v 7, .v 8, .v 9, .v 10, .v 11, .v 12, .v 13, .v 14, .v 15, .v 16, .v 17, .v 18, .v 19, .v 20, .v 21, .v 22, .v 23, .v 24, .v 25, .v 26, .v 27, .v 28, .v 29, .v 30, .v 31, .v 32, .v 33] 1, .conv 68 .i64 (.v 67), .idx 1 32, .sel 69 [.v 34, .v 35, .v 36, .v 37, .v 38, .v 39, .v 40, .v 41, .v 42, .v 43, .v 44, .v 45, .v 46, .v 47, .v 48, .v 49, .v 50, .v 51, .v 52, .v 53, .v 54, .v 55, .v 56, .v 57, .v 58, .v 59, .v 60, .v 61, .v 62, .v 63, .v 64, .v 65] 1, .conv 70 .i64 (.v 69), .bin 71 .sub .i64 (.v 68) (.v 70), .bin 72 .sub .i64 (.v 71) (.v 0), .cmp 73 .lss (.v 72) (.l 0), .cond 73 true, .bin 74 .add .i64 (.v 72) (.l 256), .conv 75 .u8 (.v 74), .idx 1 32, .upd 76 [.v 2, .v 3, .v 4, .v 5, .v 6, .v 7, .v 8, .v 9, .v 10, .v 11, .v 12, .v 13, .v 14, .v 15, .v 16, .v 17, .v 18, .v 19, .v 20, .v 21, .v 22, .v 23, .v 24, .v 25, .v 26, .v 27, .v 28, .v 29, .v 30, .v 31, .v 32, .v 33] 1 (.v 75), .bin 108 .add .i64 (.v 1) (.l 1)] [.l 1, .v 108, .v 76, .v 77, .v 78, .v 79, .v 80, .v 81, .v 82, .v 83, .v 84, .v 85, .v 86, .v 87, .v 88, .v 89, .v 90, .v 91, .v 92, .v 93, .v 94, .v 95, .v 96, .v 97, .v 98, .v 99, .v 100, .v 101, .v 102, .v 103, .v 104, .v 105, .v 106, .v 107, .v 34, .v 35, .v 36, .v 37, .v 38, .v 39, .v 40, .v 41, .v 42, .v 43, .v 44, .v 45, .v 46, .v 47, .v 48, .v 49, .v 50, .v 51, .v 52, .v 53, .v 54, .v 55, .v 56, .v 57, .v 58, .v 59, .v 60, .v 61, .v 62, .v 63, .v 64, .v 65] = true := by kernel_rfl
    rw [hb] at hk
    refine ⟨.normal, _, RoundEnd.of (e := none) hk fun ρ hρ hd => ?_, .inl ⟨rfl, min_after hI hlt (c := 1) (.inr rfl) rfl rfl⟩⟩
    have sa : seg ρ 2 32 = seg ρT 2 32 := seg_congr fun i hi => hρ _ (by show 2 + i < 66; omega)
    have sb : seg ρ 34 32 = seg ρT 34 32 := seg_congr fun i hi => hρ _ (by show 34 + i < 66; omega)
    have r0 : ρ 0 = ρT 0 := hρ 0 (by decide)
    have r1 : ρ 1 = (n : Int) := (hρ 1 (by decide)).trans hn
    simp only [D_nil, D_add, D_sub, D_mul, D_and, D_or, D_xor, D_shl, D_shr, D_andNot, D_quo, D_rem, D_add_i64, D_sub_i64, D_mul_i64, D_add_u32, D_sub_u32, D_mul_u32, D_add_u8, D_sub_u8, D_mul_u8, D_eql, D_neq, D_lss, D_leq, D_gtr, D_geq, D_not, D_conv, D_eqs, D_call, D_cond, D_need, D_idx, D_sel, D_upd, D_shv, D_beq, List.map_cons, List.map_nil, Ref.den, r0, r1] at hd
    obtain ⟨h66, h67, h68, h69, h70, h71, h72, h73, h74, h75, h76, h108, -⟩ := hd
    have e67 : ρ 67 = (seg ρT 2 32).getD n 0 := by rw [← sa]; exact h67
    have e69 : ρ 69 = (seg ρT 34 32).getD n 0 := by rw [← sb]; exact h69
    rw [e67, IntKind.wrap_i64] at h68
    rw [e69, IntKind.wrap_i64] at h70
    rw [IntKind.wrap_i64] at h71 h72 h74 h108
    rw [c_u8] at h75
    have e75 : ρ 75 = (seg ρT 2 32).getD n 0 - (seg ρT 34 32).getD n 0 - ρT 0 + 256 * 1 := by omega
    have e72 : ρ 72 < 0 := by omega
    have k66 := bit_true h66 (decide_eq_true (show (n : Int) < 32 by omega))
    have k73 := bit_true h73 (decide_eq_true e72)
    have s76 : seg ρ 76 32 = (seg ρT 2 32).set n (ρ 75) := by
      have := set_of (ρ := ρ) (n := 76) (i := n) (l := seg ρ 2 32) (x := ρ 75) (fun j hj => h76 j (by rw [seg_len] at hj; exact hj))
      rw [seg_len, sa] at this; exact this
    refine ⟨?_, fun i hi => ?_⟩
    · simp only [G_nil, G_bin, G_cmp, G_not, G_conv, G_eqs, G_call, G_cond, G_need, G_idx, G_sel, G_upd, G_shv, G_beq, List.map_cons, List.map_nil, Ref.den, r1]
      refine ⟨k66, ⟨?_, ?_⟩, ⟨?_, ?_⟩, k73, ⟨?_, ?_⟩, trivial⟩ <;> omega
    · show ([1, ρ 108] ++ (seg ρ 76 32 ++ seg ρ 34 32)).getD i 0 = _
      rw [s76, sb, e75, hn', show ρ 108 = ρT 1 + 1 by omega]
  · have hk : roundB Try.prog [] 300 5 (loopAt 0 minB) minT [true,false] none [.cmp 66 .lss (.v 1) (.l 32), .cond 66 true, .idx 1 32, .sel 67 [.v 2, .v 3, .v 4, .v 5, .v 6, .v 7, .v 8, .v 9, .v 10, .v 11, .v 12, .v 13, .v 14, .v 15, .v 16, .v 17, .v 18, .v 19, .v 20, .v 21, .v 22, .v 23, .v 24, .v 25, .v 26, .v 27, .v 28, .v 29, .v 30, .v 31, .v 32, .v 33] 1, .conv 68 .i64 (.v 67), .idx 1 32, .sel 69 [.v 34, .v 35, .v 36, .v 37, .v 38, .v 39, .v 40, .v 41, .v 42, .v 43, .v 44, .v 45, .v 46, .v 47, .v 48, .v 49, .v 50, .v 51, .v 52, .v 53, .v 54, .v 55, .v 56, .v 57, .v 58, .v 59, .v 60, .v 61, .v 62, .v 63, .v 64, .v 65] 1, .conv 70 .i64 (.v 69), .bin 71 .sub .i64 (.v 68) (.v 70), .bin 72 .sub .i64 (.v 71) (.v 0), .cmp 73 .lss (.v 72) (.l 0), .cond 73 false, .conv 74 .u8 (.v 72), .idx 1 32, .upd 75 [.v 2, .v 3, .v 4, .v 5, .v 6, .v 7, .v 8, .v 9, .v 10, .v 11, .v 12, .v 13, .v 14, .v 15, .v 16, .v 17, .v 18, .v 19, .v 20, .v 21, .v 22, .v 23, .v 24, .v 25, .v 26, .v 27, .v 28, .v 29, .v 30, .v 31, .v 32, .v 33] 1 (.v 74), .bin 107 .add .i64 (.v 1) (.l 1)] [.l 0, .v 107, .v 75, .v 76, .v 77, .v 78, .v 79, .v 80, .v 81, .v 82, .v 83, .v 84, .v 85, .v 86, .v 87, .v 88, .v 89, .v 90, .v 91, .v 92, .v 93, .v 94, .v 95, .v 96, .v 97, .v 98, .v 99, .v 100, .v 101, .v 102, .v 103, .v 104, .v 105, .v 106, .v 34, .v 35, .v 36, .v 37, .v 38, .v 39, .v 40, .v 41, .v 42, .v 43, .v 44, .v 45, .v 46, .v 47, .v 48, .v 49, .v 50, .v 51, .v 52, .v 53, .v 54, .v 55, .v 56, .v 57, .v 58, .v 59, .v 60, .v 61, .v 62, .v 63, .v 64, .v 65] = true := by kernel_rfl
    rw [hb] at hk
    refine ⟨.normal, _, RoundEnd.of (e := none) hk fun ρ hρ hd => ?_, .inl ⟨rfl, min_after hI hlt (c := 0) (.inl rfl) rfl rfl⟩⟩
    have sa : seg ρ 2 32 = seg ρT 2 32 := seg_congr fun i hi => hρ _ (by show 2 + i < 66; omega)
    have sb : seg ρ 34 32 = seg ρT 34 32 := seg_congr fun i hi => hρ _ (by show 34 + i < 66; omega)
    have r0 : ρ 0 = ρT 0 := hρ 0 (by decide)
    have r1 : ρ 1 = (n : Int) := (hρ 1 (by decide)).trans hn
    simp only [D_nil, D_add, D_sub, D_mul, D_and, D_or, D_xor, D_shl, D_shr, D_andNot, D_quo, D_rem, D_add_i64, D_sub_i64, D_mul_i64, D_add_u32, D_sub_u32, D_mul_u32, D_add_u8, D_sub_u8, D_mul_u8, D_eql, D_neq, D_lss, D_leq, D_gtr, D_geq, D_not, D_conv, D_eqs, D_call, D_cond, D_need, D_idx, D_sel, D_upd, D_shv, D_beq, List.map_cons, List.map_nil, Ref.den, r0, r1] at hd
    obtain ⟨h66, h67, h68, h69, h70, h71, h72, h73, h74, h75, h107, -⟩ := hd
    have e67 : ρ 67 = (seg ρT 2 32).getD n 0 := by rw [← sa]; exact h67
    have e69 : ρ 69 = (seg ρT 34 32).getD n 0 := by rw [← sb]; exact h69
    rw [e67, IntKind.wrap_i64] at h68
    rw [e69, IntKind.wrap_i64] at h70
    rw [IntKind.wrap_i64] at h71 h72 h107
    rw [c_u8] at h74
    have e74 : ρ 74 = (seg ρT 2 32).getD n 0 - (seg ρT 34 32).getD n 0 - ρT 0 + 256 * 0 := by omega
    have e72 : ¬ ρ 72 < 0 := by omega
    have k66 := bit_true h66 (decide_eq_true (show (n : Int) < 32 by omega))
    have k73 := bit_false h73 (decide_eq_false e72)
    have s75 : seg ρ 75 32 = (seg ρT 2 32).set n (ρ 74) := by
      have := set_of (ρ := ρ) (n := 75) (i := n) (l := seg ρ 2 32) (x := ρ 74) (fun j hj => h75 j (by rw [seg_len] at hj; exact hj))
      rw [seg_len, sa] at this; exact this
    refine ⟨?_, fun i hi => ?_⟩
    · simp only [G_nil, G_bin, G_cmp, G_not, G_conv, G_eqs, G_call, G_cond, G_need, G_idx, G_sel, G_upd, G_shv, G_beq, List.map_cons, List.map_nil, Ref.den, r1]
      refine ⟨k66, ⟨?_, ?_⟩, ⟨?_, ?_⟩, k73, ⟨?_, ?_⟩, trivial⟩ <;> omega
    · show ([0, ρ 107] ++ (seg ρ 75 32 ++ seg ρ 34 32)).getD i 0 = _
      rw [s75, sb, e74, hn', show ρ 107 = ρT 1 + 1 by omega]
theorem min_end {cl : Code} (hb : loopAt 0 minB = some cl) {ρ0 ρT : Nat → Int} (hT : TOk minT.slT minT.memT ρT) (hI : minI ρ0 ρT) (hlt : ¬ ρT 1 < 32) :
    ∃ e x', RoundEnd Try.prog sfns (callN Try.prog [] 300 5) 300 cl minT.slT minT.memT minT.m ρT e x' ∧ ((e = .normal ∧ minI ρ0 x' ∧ (32 - x' 1).toNat < (32 - ρT 1).toNat) ∨ (e = .exit minT.xid ∧ ∀ i, i < minT.m → x' i = (sfns.g minT.j [xs minT.m ρ0]).getD i 0)) := by
  obtain ⟨dA, dB⟩ := min_dig hT
  obtain ⟨i1, i2, i3, i4, i5⟩ := hI
  have hk : roundB Try.prog [] 300 5 (loopAt 0 minB) minT [false] (some 0) [.cmp 66 .lss (.v 1) (.l 32), .cond 66 false] [.v 0, .v 1, .v 2, .v 3, .v 4, .v 5, .v 6, .v 7, .v 8, .v 9, .v 10, .v 11, .v 12, .v 13, .v 14, .v 15, .v 16, .v 17, .v 18, .v 19, .v 20, .v 21, .v 22, .v 23, .v 24, .v 25, .v 26, .v 27, .v 28, .v 29, .v 30, .v 31, .v 32, .v 33, .v 34, .v 35, .v 36, .v 37, .v 38, .v 39, .v 40, .v 41, .v 42, .v 43, .v 44, .v 45, .v 46, .v 47, .v 48, .v 49, .v 50, .v 51, .v 52, .v 53, .v 54, .v 55, .v 56, .v 57, .v 58, .v 59, .v 60, .v 61, .v 62, .v 63, .v 64, .v 65] = true := by kernel_rfl
  rw [hb] at hk
  refine ⟨.exit 0, ρT, RoundEnd.of (e := some 0) hk fun ρ hρ hd => ?_, .inr ⟨rfl, fun i hi => ?_⟩⟩
  · have r1 : ρ 1 = ρT 1 := hρ 1 (by decide)
    simp only [D_nil, D_add, D_sub, D_mul, D_and, D_or, D_xor, D_shl, D_shr, D_andNot, D_quo, D_rem, D_add_i64, D_sub_i64, D_mul_i64, D_add_u32, D_sub_u32, D_mul_u32, D_add_u8, D_sub_u8, D_mul_u8, D_eql, D_neq, D_lss, D_leq, D_gtr, D_geq, D_not, D_conv, D_eqs, D_call, D_cond, D_need, D_idx, D_sel, D_upd, D_shv, D_beq, List.map_cons, List.map_nil, Ref.den, r1] at hd
    obtain ⟨h66, -⟩ := hd
    have k66 := bit_false h66 (decide_eq_false hlt)
    refine ⟨by simp only [G_nil, G_bin, G_cmp, G_not, G_conv, G_eqs, G_call, G_cond, G_need, G_idx, G_sel, G_upd, G_shv, G_beq, List.map_cons, List.map_nil, Ref.den]; exact ⟨k66, trivial⟩, fun i hi => ?_⟩
    show ([ρ 0, ρ 1] ++ (seg ρ 2 32 ++ seg ρ 34 32)).getD i 0 = _
    rw [← min_get ρ hi, hρ i hi]
  · have hi : i < 66 := hi
    have e1 : ρT 1 = 32 := by omega
    have hA : ((xs 66 ρ0).drop 2).take 32 = seg ρ0 2 32 := xs_drop (by omega)
    have hB : ((xs 66 ρ0).drop 34).take 32 = seg ρ0 34 32 := xs_drop (by omega)
    show ρT i = ([b2i (decide (dv 256 (((xs 66 ρ0).drop 2).take 32) < dv 256 (((xs 66 ρ0).drop 34).take 32))), 32] ++ (dg 256 32 (dv 256 (((xs 66 ρ0).drop 2).take 32) - dv 256 (((xs 66 ρ0).drop 34).take 32)) ++ ((xs 66 ρ0).drop 34).take 32)).getD i 0
    rw [hA, hB, min_get ρT hi, e1, i4]
    rw [e1, show (32 : Int).toNat = 32 from rfl, List.take_of_length_le (by rw [seg_len]; omega)] at i5
    have l1 : (seg ρT 2 32).length = 32 := seg_len _ _ _
    have bA := dv_bound (by decide) dA
    rw [l1] at bA
    have c0 : ρT 0 = b2i (decide (dv 256 (seg ρ0 2 32) < dv 256 (seg ρ0 34 32))) := by
      rcases i1 with h | h
      · rw [h, decide_eq_false (by rw [h] at i5; omega)]; rfl
      · rw [h, decide_eq_true (by rw [h] at i5; omega)]; rfl
    have a0 : seg ρT 2 32 = dg 256 32 (dv 256 (seg ρ0 2 32) - dv 256 (seg ρ0 34 32)) := by
      have h1 : seg ρT 2 32 = dg 256 32 (dv 256 (seg ρT 2 32)) := by have := dg_dv (by decide) dA; rw [l1] at this; exact this.symm
      rw [h1]
      exact dg_cong (by decide) (ρT 0) (by rw [i5]; rw [Int.mul_comm (256 ^ 32)])
    rw [c0, a0]
theorem okMinus : CtrOK Try.prog sfns cMinus := by
  refine CtrOK.ofL (t := minT) (k := 0) (fn := Try.f53) (body := minB) no_ctr mixed (lf := 300) (d := 5) (by kernel_rfl) (by kernel_rfl) ?_ rfl fun w vs xs ha _ => ?_
  · intro cl hcl
    refine ⟨minI, fun ρ => (32 - ρ 1).toNat, fun ρ0 hT hp => ?_, fun ρ0 ρT hT hI => ?_⟩
    · obtain ⟨p1, p2⟩ : ρ0 0 = 0 ∧ ρ0 1 = 0 := hp
      refine ⟨.inl p1, by omega, by omega, rfl, ?_⟩
      rw [p1, p2]; show _ = _ - dv 256 [] + 0 * _
      simp [dv]
    · by_cases h : ρT 1 < 32
      · exact min_go hcl hT hI h
      · exact min_end hcl hT hI h
  · obtain ⟨v, u, a, b, rfl, rfl, ⟨la, -, ia⟩, ⟨lb, -, ib⟩⟩ := open2 ha
    refine WayL.of (dec := []) (fs := [.need 31 [[.l 0, .l 0, .v 0, .v 1, .v 2, .v 3, .v 4, .v 5, .v 6, .v 7, .v 8, .v 9, .v 10, .v 11, .v 12, .v 13, .v 14, .v 15, .v 16, .v 17, .v 18, .v 19, .v 20, .v 21, .v 22, .v 23, .v 24, .v 25, .v 26, .v 27, .v 28, .v 29, .v 30, .v 31, .v 32, .v 33, .v 34, .v 35, .v 36, .v 37, .v 38, .v 39, .v 40, .v 41, .v 42, .v 43, .v 44, .v 45, .v 46, .v 47, .v 48, .v 49, .v 50, .v 51, .v 52, .v 53, .v 54, .v 55, .v 56, .v 57, .v 58, .v 59, .v 60, .v 61, .v 62, .v 63]], .call 64 31 [[.l 0, .l 0, .v 0, .v 1, .v 2, .v 3, .v 4, .v 5, .v 6, .v 7, .v 8, .v 9, .v 10, .v 11, .v 12, .v 13, .v 14, .v 15, .v 16, .v 17, .v 18, .v 19, .v 20, .v 21, .v 22, .v 23, .v 24, .v 25, .v 26, .v 27, .v 28, .v 29, .v 30, .v 31, .v 32, .v 33, .v 34, .v 35, .v 36, .v 37, .v 38, .v 39, .v 40, .v 41, .v 42, .v 43, .v 44, .v 45, .v 46, .v 47, .v 48, .v 49, .v 50, .v 51, .v 52, .v 53, .v 54, .v 55, .v 56, .v 57, .v 58, .v 59, .v 60, .v 61, .v 62, .v 63]] 66]) (refs := [.v 66, .v 67, .v 68, .v 69, .v 70, .v 71, .v 72, .v 73, .v 74, .v 75, .v 76, .v 77, .v 78, .v 79, .v 80, .v 81, .v 82, .v 83, .v 84, .v 85, .v 86, .v 87, .v 88, .v 89, .v 90, .v 91, .v 92, .v 93, .v 94, .v 95, .v 96, .v 97]) (by kernel_rfl) fun ρ hρ hd => ?_
    have ea : seg ρ 0 32 = a := seg_of (fun i hi => by
      rw [Nat.zero_add, hρ i (by show i < 64; omega)]
      simp only [flat, List.flatten_cons, List.flatten_nil, List.append_nil, List.getD_eq_getElem?_getD]
      rw [List.getElem?_append_left (by omega)]) la
    have eb : seg ρ 32 32 = b := seg_of (fun i hi => by
      rw [hρ (32 + i) (by show 32 + i < 64; omega)]
      simp only [flat, List.flatten_cons, List.flatten_nil, List.append_nil, List.getD_eq_getElem?_getD]
      rw [List.getElem?_append_right (by omega), la, Nat.add_sub_cancel_left]) lb
    simp only [D_nil, D_add, D_sub, D_mul, D_and, D_or, D_xor, D_shl, D_shr, D_andNot, D_quo, D_rem, D_add_i64, D_sub_i64, D_mul_i64, D_add_u32, D_sub_u32, D_mul_u32, D_add_u8, D_sub_u8, D_mul_u8, D_eql, D_neq, D_lss, D_leq, D_gtr, D_geq, D_not, D_conv, D_eqs, D_call, D_cond, D_need, D_idx, D_sel, D_upd, D_shv, D_beq, List.map_cons, List.map_nil, Ref.den] at hd
    obtain ⟨h64, -⟩ := hd
    refine ⟨?_, ?_⟩
    · simp only [G_nil, G_bin, G_cmp, G_not, G_conv, G_eqs, G_call, G_cond, G_need, G_idx, G_sel, G_upd, G_shv, G_beq, List.map_cons, List.map_nil, Ref.den]; exact ⟨⟨rfl, rfl⟩, trivial⟩
    · show seg ρ 66 32 = dg 256 32 (dv 256 a - dv 256 b)
      refine seg_of (fun i hi => ?_) (dg_len _ _ _)
      rw [show 66 + i = 64 + (2 + i) by omega, h64 (2 + i) (by show 2 + i < 66; omega)]
      show ([_, _] ++ (dg 256 32 (dv 256 (seg ρ 0 32) - dv 256 (seg ρ 32 32)) ++ seg ρ 32 32)).getD (2 + i) 0 = _
      rw [ea, eb]
      simp only [List.getD_eq_getElem?_getD]
      rw [List.getElem?_append_right (by simp), List.getElem?_append_left (by rw [dg_len]; simp; omega)]
      simp
#print axioms okMinus
end Go.Proofs.Ytokndemdmkaofaa
