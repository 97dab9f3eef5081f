/- Numbers modulo p, the paper's own functions: what is shown of Times. No condition. -/
import Derived.Test.YtgjjndbogghfcaaGk1
namespace Go.Proofs.Ytgjjndbogghfcaa
open Go.RowKit Go.Bx Go.Sx
set_option linter.unusedSimpArgs false
set_option maxRecDepth 100000
def cFTimes : Ctr := ⟨45, 55, [.arr .i64 16, .arr .i64 16], [.arr .i64 16]⟩
noncomputable def tiT : LoopT := ⟨[.any, .any, .c (.ptr 0 0), .c (.ptr 1 0), .c (.ptr 2 0), .c (.ptr 3 0), .c (.int .i64 (.v 0)), .any, .any, .any, .any, .any, .any, .any, .any, .any, .any, .any, .any, .any, .any, .any, .any, .any, .any, .any, .any, .any, .any, .any, .any, .any, .any, .any, .any, .any, .any, .any, .any, .any, .any, .any, .any, .any, .any, .any, .any, .any, .any, .any, .any, .any, .any, .any, .any, .any, .any, .any, .any, .any, .any], [some ⟨49, [.int .i64 (.v 1), .int .i64 (.v 2), .int .i64 (.v 3), .int .i64 (.v 4), .int .i64 (.v 5), .int .i64 (.v 6), .int .i64 (.v 7), .int .i64 (.v 8), .int .i64 (.v 9), .int .i64 (.v 10), .int .i64 (.v 11), .int .i64 (.v 12), .int .i64 (.v 13), .int .i64 (.v 14), .int .i64 (.v 15), .int .i64 (.v 16)]⟩, some ⟨49, [.int .i64 (.v 17), .int .i64 (.v 18), .int .i64 (.v 19), .int .i64 (.v 20), .int .i64 (.v 21), .int .i64 (.v 22), .int .i64 (.v 23), .int .i64 (.v 24), .int .i64 (.v 25), .int .i64 (.v 26), .int .i64 (.v 27), .int .i64 (.v 28), .int .i64 (.v 29), .int .i64 (.v 30), .int .i64 (.v 31), .int .i64 (.v 32)]⟩, some ⟨49, [.int .i64 (.v 33), .int .i64 (.v 34), .int .i64 (.v 35), .int .i64 (.v 36), .int .i64 (.v 37), .int .i64 (.v 38), .int .i64 (.v 39), .int .i64 (.v 40), .int .i64 (.v 41), .int .i64 (.v 42), .int .i64 (.v 43), .int .i64 (.v 44), .int .i64 (.v 45), .int .i64 (.v 46), .int .i64 (.v 47), .int .i64 (.v 48)]⟩, some ⟨67, [.int .i64 (.v 49), .int .i64 (.v 50), .int .i64 (.v 51), .int .i64 (.v 52), .int .i64 (.v 53), .int .i64 (.v 54), .int .i64 (.v 55), .int .i64 (.v 56), .int .i64 (.v 57), .int .i64 (.v 58), .int .i64 (.v 59), .int .i64 (.v 60), .int .i64 (.v 61), .int .i64 (.v 62), .int .i64 (.v 63), .int .i64 (.v 64), .int .i64 (.v 65), .int .i64 (.v 66), .int .i64 (.v 67), .int .i64 (.v 68), .int .i64 (.v 69), .int .i64 (.v 70), .int .i64 (.v 71), .int .i64 (.v 72), .int .i64 (.v 73), .int .i64 (.v 74), .int .i64 (.v 75), .int .i64 (.v 76), .int .i64 (.v 77), .int .i64 (.v 78), .int .i64 (.v 79)]⟩], 80, 60, 0, [.l 0, .v 0, .v 1, .v 2, .v 3, .v 4, .v 5, .v 6, .v 7, .v 8, .v 9, .v 10, .v 11, .v 12, .v 13, .v 14, .v 15, .v 16, .v 17, .v 18, .v 19, .v 20, .v 21, .v 22, .v 23, .v 24, .v 25, .v 26, .v 27, .v 28, .v 29, .v 30, .v 31, .l 0, .l 0, .l 0, .l 0, .l 0, .l 0, .l 0, .l 0, .l 0, .l 0, .l 0, .l 0, .l 0, .l 0, .l 0, .l 0, .l 0, .l 0, .l 0, .l 0, .l 0, .l 0, .l 0, .l 0, .l 0, .l 0, .l 0, .l 0, .l 0, .l 0, .l 0, .l 0, .l 0, .l 0, .l 0, .l 0, .l 0, .l 0, .l 0, .l 0, .l 0, .l 0, .l 0, .l 0, .l 0, .l 0, .l 0]⟩
noncomputable def tiA : LoopT := ⟨[.any, .any, .c (.ptr 0 0), .c (.ptr 1 0), .c (.ptr 2 0), .c (.ptr 3 0), .c (.int .i64 (.v 0)), .c (.int .i64 (.v 1)), .any, .any, .any, .any, .any, .any, .any, .any, .any, .any, .any, .any, .any, .any, .any, .any, .any, .any, .any, .any, .any, .any, .any, .any, .any, .any, .any, .any, .any, .any, .any, .any, .any, .any, .any, .any, .any, .any, .any, .any, .any, .any, .any, .any, .any, .any, .any, .any, .any, .any, .any, .any, .any], [some ⟨49, [.int .i64 (.v 2), .int .i64 (.v 3), .int .i64 (.v 4), .int .i64 (.v 5), .int .i64 (.v 6), .int .i64 (.v 7), .int .i64 (.v 8), .int .i64 (.v 9), .int .i64 (.v 10), .int .i64 (.v 11), .int .i64 (.v 12), .int .i64 (.v 13), .int .i64 (.v 14), .int .i64 (.v 15), .int .i64 (.v 16), .int .i64 (.v 17)]⟩, some ⟨49, [.int .i64 (.v 18), .int .i64 (.v 19), .int .i64 (.v 20), .int .i64 (.v 21), .int .i64 (.v 22), .int .i64 (.v 23), .int .i64 (.v 24), .int .i64 (.v 25), .int .i64 (.v 26), .int .i64 (.v 27), .int .i64 (.v 28), .int .i64 (.v 29), .int .i64 (.v 30), .int .i64 (.v 31), .int .i64 (.v 32), .int .i64 (.v 33)]⟩, some ⟨49, [.int .i64 (.v 34), .int .i64 (.v 35), .int .i64 (.v 36), .int .i64 (.v 37), .int .i64 (.v 38), .int .i64 (.v 39), .int .i64 (.v 40), .int .i64 (.v 41), .int .i64 (.v 42), .int .i64 (.v 43), .int .i64 (.v 44), .int .i64 (.v 45), .int .i64 (.v 46), .int .i64 (.v 47), .int .i64 (.v 48), .int .i64 (.v 49)]⟩, some ⟨67, [.int .i64 (.v 50), .int .i64 (.v 51), .int .i64 (.v 52), .int .i64 (.v 53), .int .i64 (.v 54), .int .i64 (.v 55), .int .i64 (.v 56), .int .i64 (.v 57), .int .i64 (.v 58), .int .i64 (.v 59), .int .i64 (.v 60), .int .i64 (.v 61), .int .i64 (.v 62), .int .i64 (.v 63), .int .i64 (.v 64), .int .i64 (.v 65), .int .i64 (.v 66), .int .i64 (.v 67), .int .i64 (.v 68), .int .i64 (.v 69), .int .i64 (.v 70), .int .i64 (.v 71), .int .i64 (.v 72), .int .i64 (.v 73), .int .i64 (.v 74), .int .i64 (.v 75), .int .i64 (.v 76), .int .i64 (.v 77), .int .i64 (.v 78), .int .i64 (.v 79), .int .i64 (.v 80)]⟩], 81, 61, 2, [.v 0, .l 0, .v 1, .v 2, .v 3, .v 4, .v 5, .v 6, .v 7, .v 8, .v 9, .v 10, .v 11, .v 12, .v 13, .v 14, .v 15, .v 16, .v 17, .v 18, .v 19, .v 20, .v 21, .v 22, .v 23, .v 24, .v 25, .v 26, .v 27, .v 28, .v 29, .v 30, .v 31, .v 32, .v 33, .v 34, .v 35, .v 36, .v 37, .v 38, .v 39, .v 40, .v 41, .v 42, .v 43, .v 44, .v 45, .v 46, .v 47, .v 48, .v 49, .v 50, .v 51, .v 52, .v 53, .v 54, .v 55, .v 56, .v 57, .v 58, .v 59, .v 60, .v 61, .v 62, .v 63, .v 64, .v 65, .v 66, .v 67, .v 68, .v 69, .v 70, .v 71, .v 72, .v 73, .v 74, .v 75, .v 76, .v 77, .v 78, .v 79]⟩
noncomputable def tiBody : Code := (Try.f45).body.getD .skip
noncomputable def tiIn : Code := (loopAt 0 tiBody).getD .skip
theorem seg_sp (ρ : Nat → Int) (a n m : Nat) : seg ρ a (n + m) = seg ρ a n ++ seg ρ (a + n) m := by
  unfold seg
  rw [List.range_add, List.map_append, List.map_map]
  congr 1
  exact List.map_congr_left fun i _ => by simp [Nat.add_assoc]
theorem ti_get (ρ : Nat → Int) {i : Nat} (hi : i < 81) : ρ i = ([ρ 0, ρ 1] ++ (seg ρ 2 48 ++ seg ρ 50 31)).getD i 0 := by
  rw [show [ρ 0, ρ 1] ++ (seg ρ 2 48 ++ seg ρ 50 31) = seg ρ 0 81 from rfl, seg_get hi, Nat.zero_add]
theorem ti_get' (ρ : Nat → Int) {i : Nat} (hi : i < 80) : ρ i = ([ρ 0] ++ (seg ρ 1 48 ++ seg ρ 49 31)).getD i 0 := by
  rw [show [ρ 0] ++ (seg ρ 1 48 ++ seg ρ 49 31) = seg ρ 0 80 from rfl, seg_get hi, Nat.zero_add]
theorem thirds {ρ ρ' : Nat → Int} {o o' : Nat} (h : seg ρ o 48 = seg ρ' o' 48) : seg ρ o 16 = seg ρ' o' 16 ∧ seg ρ (o + 16) 16 = seg ρ' (o' + 16) 16 := by
  rw [seg_sp ρ o 16 32, seg_sp ρ' o' 16 32] at h
  obtain ⟨h1, h2⟩ := List.append_inj h (by rw [seg_len, seg_len])
  rw [seg_sp ρ (o + 16) 16 16, seg_sp ρ' (o' + 16) 16 16] at h2
  exact ⟨h1, (List.append_inj h2 (by rw [seg_len, seg_len])).1⟩
/-- One row: the state, so far. -/
def tiRI (ρ0 ρ : Nat → Int) : Prop :=
  ρ 0 = ρ0 0 ∧ 0 ≤ ρ0 0 ∧ ρ0 0 < 16 ∧ 0 ≤ ρ 1 ∧ ρ 1 ≤ 16 ∧ seg ρ 2 48 = seg ρ0 2 48 ∧ Bd 65573 (seg ρ0 2 16) ∧ Bd 65573 (seg ρ0 18 16) ∧ Bd 1099511627776 (seg ρ0 50 31) ∧ seg ρ 50 31 = addRowF (ρ0 0).toNat (ρ 1).toNat (seg ρ0 2 16) (seg ρ0 18 16) (seg ρ0 50 31)
theorem after2 {n m : Nat} {a b : Int} {A B : List Int} (lA : A.length = n) (lB : B.length = m) {x' : Nat → Int} (hx : x' = fun j => ([a, b] ++ (A ++ B)).getD j 0) : x' 0 = a ∧ x' 1 = b ∧ seg x' 2 n = A ∧ seg x' (2 + n) m = B := by
  refine ⟨by rw [hx]; rfl, by rw [hx]; rfl, ?_, ?_⟩
  · have := seg_mid [a, b] A B
    rw [lA] at this; rw [hx]; exact this
  · have := seg_end [a, b] A B
    rw [lA, lB] at this; rw [hx]; exact this
theorem row_go {cl : Code} (hb : loopAt 0 tiIn = some cl) {ρ0 ρT : Nat → Int} (hI : tiRI ρ0 ρT) (hlt : ρT 1 < 16) :
    ∃ e x', RoundEnd Try.prog sfns (callN Try.prog GT1 300 5) 300 cl tiA.slT tiA.memT tiA.m ρT e x' ∧ ((e = .normal ∧ tiRI ρ0 x' ∧ (16 - x' 1).toNat < (16 - ρT 1).toNat) ∨ (e = .exit tiA.xid ∧ ∀ i, i < tiA.m → x' i = (sfns.g tiA.j [xs tiA.m ρ0]).getD i 0)) := by
  obtain ⟨i1, i2, i3, i4, i5, i6, ia, ib, it, i8⟩ := hI
  obtain ⟨i, hi⟩ := Int.eq_ofNat_of_zero_le i2
  obtain ⟨k, hk0⟩ := Int.eq_ofNat_of_zero_le i4
  have hi' : (ρ0 0).toNat = i := by omega
  have hk' : (ρT 1).toNat = k := by omega
  rw [hi', hk'] at i8
  have m0 := mul_bd (bd_get ia (by decide) i) (bd_get ib (by decide) k)
  have t0 := bd_get it (by decide) (i + k)
  have ht : (addRowF i k (seg ρ0 2 16) (seg ρ0 18 16) (seg ρ0 50 31)).getD (i + k) 0 = (seg ρ0 50 31).getD (i + k) 0 := by rw [addRowF_get (by omega), if_neg (by omega), Int.add_zero]
  have hk : roundB Try.prog GT1 300 5 (loopAt 0 tiIn) tiA [true] none [.cmp 81 .lss (.v 1) (.l 16), .cond 81 true, .bin 82 .add .i64 (.v 0) (.v 1), .bin 83 .add .i64 (.v 0) (.v 1), .idx 83 31, .sel 84 [.v 50, .v 51, .v 52, .v 53, .v 54, .v 55, .v 56, .v 57, .v 58, .v 59, .v 60, .v 61, .v 62, .v 63, .v 64, .v 65, .v 66, .v 67, .v 68, .v 69, .v 70, .v 71, .v 72, .v 73, .v 74, .v 75, .v 76, .v 77, .v 78, .v 79, .v 80] 83, .idx 0 16, .sel 85 [.v 2, .v 3, .v 4, .v 5, .v 6, .v 7, .v 8, .v 9, .v 10, .v 11, .v 12, .v 13, .v 14, .v 15, .v 16, .v 17] 0, .idx 1 16, .sel 86 [.v 18, .v 19, .v 20, .v 21, .v 22, .v 23, .v 24, .v 25, .v 26, .v 27, .v 28, .v 29, .v 30, .v 31, .v 32, .v 33] 1, .bin 87 .mul .i64 (.v 85) (.v 86), .bin 88 .add .i64 (.v 84) (.v 87), .idx 82 31, .upd 89 [.v 50, .v 51, .v 52, .v 53, .v 54, .v 55, .v 56, .v 57, .v 58, .v 59, .v 60, .v 61, .v 62, .v 63, .v 64, .v 65, .v 66, .v 67, .v 68, .v 69, .v 70, .v 71, .v 72, .v 73, .v 74, .v 75, .v 76, .v 77, .v 78, .v 79, .v 80] 82 (.v 88), .bin 120 .add .i64 (.v 1) (.l 1)] [.v 0, .v 120, .v 2, .v 3, .v 4, .v 5, .v 6, .v 7, .v 8, .v 9, .v 10, .v 11, .v 12, .v 13, .v 14, .v 15, .v 16, .v 17, .v 18, .v 19, .v 20, .v 21, .v 22, .v 23, .v 24, .v 25, .v 26, .v 27, .v 28, .v 29, .v 30, .v 31, .v 32, .v 33, .v 34, .v 35, .v 36, .v 37, .v 38, .v 39, .v 40, .v 41, .v 42, .v 43, .v 44, .v 45, .v 46, .v 47, .v 48, .v 49, .v 89, .v 90, .v 91, .v 92, .v 93, .v 94, .v 95, .v 96, .v 97, .v 98, .v 99, .v 100, .v 101, .v 102, .v 103, .v 104, .v 105, .v 106, .v 107, .v 108, .v 109, .v 110, .v 111, .v 112, .v 113, .v 114, .v 115, .v 116, .v 117, .v 118, .v 119] = true := by kernel_rfl
  rw [hb] at hk
  refine ⟨.normal, fun j => ([ρT 0, ρT 1 + 1] ++ (seg ρ0 2 48 ++ addRowF i (k + 1) (seg ρ0 2 16) (seg ρ0 18 16) (seg ρ0 50 31))).getD j 0, RoundEnd.of (e := none) hk fun ρ hρ hd => ?_, .inl ⟨rfl, ?_⟩⟩
  · have hρ : ∀ i, i < 81 → ρ i = ρT i := hρ
    have r0 : ρ 0 = (i : Int) := by rw [hρ 0 (by decide), i1, hi]
    have r1 : ρ 1 = (k : Int) := by rw [hρ 1 (by decide), hk0]
    have sm : seg ρ 2 48 = seg ρ0 2 48 := (seg_congr fun i hi => hρ _ (by omega)).trans i6
    obtain ⟨sa, sb⟩ := thirds sm
    have sb : seg ρ 18 16 = seg ρ0 18 16 := sb
    have st : seg ρ 50 31 = addRowF i k (seg ρ0 2 16) (seg ρ0 18 16) (seg ρ0 50 31) := (seg_congr fun i hi => hρ _ (by omega)).trans i8
    simp only [D_nil, D_add, D_sub, D_mul, D_and, D_or, D_xor, D_shl, D_shr, D_andNot, D_quo, D_rem, D_add_i64, D_sub_i64, D_mul_i64, D_add_u32, D_sub_u32, D_mul_u32, D_add_u8, D_sub_u8, D_mul_u8, D_eql, D_neq, D_lss, D_leq, D_gtr, D_geq, D_not, D_conv, D_eqs, D_call, D_cond, D_need, D_idx, D_sel, D_upd, D_shv, D_beq, List.map_cons, List.map_nil, Ref.den, r0, r1] at hd
    obtain ⟨h81, h82, h83, h84, h85, h86, h87, h88, h89, h120, -⟩ := hd
    rw [IntKind.wrap_i64] at h82 h83 h120
    have e82 : ρ 82 = ((i + k : Nat) : Int) := by omega
    have e83 : ρ 83 = ((i + k : Nat) : Int) := by omega
    have e84 : ρ 84 = (seg ρ0 50 31).getD (i + k) 0 := by
      have h : ρ 84 = (seg ρ 50 31).getD (ρ 83).toNat 0 := h84
      rw [h, e83, Int.toNat_natCast, st, ht]
    have e85 : ρ 85 = (seg ρ0 2 16).getD i 0 := by
      have h : ρ 85 = (seg ρ 2 16).getD i 0 := h85
      rw [h, sa]
    have e86 : ρ 86 = (seg ρ0 18 16).getD k 0 := by
      have h : ρ 86 = (seg ρ 18 16).getD k 0 := h86
      rw [h, sb]
    rw [e85, e86, IntKind.wrap_i64] at h87
    rw [e84, IntKind.wrap_i64] at h88
    have e88 : ρ 88 = (seg ρ0 50 31).getD (i + k) 0 + (seg ρ0 2 16).getD i 0 * (seg ρ0 18 16).getD k 0 := by
      generalize (seg ρ0 2 16).getD i 0 * (seg ρ0 18 16).getD k 0 = p at *
      omega
    have s89 : seg ρ 89 31 = addRowF i (k + 1) (seg ρ0 2 16) (seg ρ0 18 16) (seg ρ0 50 31) := by
      have := set_of (ρ := ρ) (n := 89) (i := i + k) (l := seg ρ 50 31) (x := ρ 88) (fun j hj => by
        have h := h89 j (by rw [seg_len] at hj; exact hj)
        rw [e82, Int.toNat_natCast] at h; exact h)
      rw [seg_len, st, e88, ← ht] at this
      rw [this, addRowF_succ (by omega)]
    have k81 := bit_true h81 (decide_eq_true (show (k : Int) < 16 by omega))
    refine ⟨?_, fun j hj => ?_⟩
    · simp only [G_nil, G_bin, G_cmp, G_not, G_conv, G_eqs, G_call, G_cond, G_need, G_idx, G_sel, G_upd, G_shv, G_beq, List.map_cons, List.map_nil, Ref.den, r0, r1]
      refine ⟨k81, ⟨?_, ?_⟩, ⟨?_, ?_⟩, ⟨?_, ?_⟩, ⟨?_, ?_⟩, trivial⟩ <;> omega
    · show ([ρ 0, ρ 120] ++ (seg ρ 2 48 ++ seg ρ 89 31)).getD j 0 = _
      rw [s89, sm, hρ 0 (by decide), show ρ 120 = ρT 1 + 1 by omega]
  · obtain ⟨x', hx⟩ : ∃ x', x' = fun j => ([ρT 0, ρT 1 + 1] ++ (seg ρ0 2 48 ++ addRowF i (k + 1) (seg ρ0 2 16) (seg ρ0 18 16) (seg ρ0 50 31))).getD j 0 := ⟨_, rfl⟩
    rw [← hx]
    obtain ⟨x0, x1, xa, xb⟩ := after2 (a := ρT 0) (b := ρT 1 + 1) (seg_len ρ0 2 48) (addRowF_len i (k + 1) (seg ρ0 2 16) (seg ρ0 18 16) (seg ρ0 50 31)) hx
    have xb : seg x' 50 31 = _ := xb
    refine ⟨⟨x0.trans i1, i2, i3, ?_, ?_, xa, ia, ib, it, ?_⟩, ?_⟩
    · rw [x1]; omega
    · rw [x1]; omega
    · rw [xb, x1, hi', show (ρT 1 + 1).toNat = k + 1 by omega]
    · rw [x1]; omega
theorem row_end {cl : Code} (hb : loopAt 0 tiIn = some cl) {ρ0 ρT : Nat → Int} (hI : tiRI ρ0 ρT) (hlt : ¬ ρT 1 < 16) :
    ∃ e x', RoundEnd Try.prog sfns (callN Try.prog GT1 300 5) 300 cl tiA.slT tiA.memT tiA.m ρT e x' ∧ ((e = .normal ∧ tiRI ρ0 x' ∧ (16 - x' 1).toNat < (16 - ρT 1).toNat) ∨ (e = .exit tiA.xid ∧ ∀ i, i < tiA.m → x' i = (sfns.g tiA.j [xs tiA.m ρ0]).getD i 0)) := by
  obtain ⟨i1, i2, i3, i4, i5, i6, ia, ib, it, i8⟩ := hI
  have hk : roundB Try.prog GT1 300 5 (loopAt 0 tiIn) tiA [false] (some 2) [.cmp 81 .lss (.v 1) (.l 16), .cond 81 false] [.v 0, .v 1, .v 2, .v 3, .v 4, .v 5, .v 6, .v 7, .v 8, .v 9, .v 10, .v 11, .v 12, .v 13, .v 14, .v 15, .v 16, .v 17, .v 18, .v 19, .v 20, .v 21, .v 22, .v 23, .v 24, .v 25, .v 26, .v 27, .v 28, .v 29, .v 30, .v 31, .v 32, .v 33, .v 34, .v 35, .v 36, .v 37, .v 38, .v 39, .v 40, .v 41, .v 42, .v 43, .v 44, .v 45, .v 46, .v 47, .v 48, .v 49, .v 50, .v 51, .v 52, .v 53, .v 54, .v 55, .v 56, .v 57, .v 58, .v 59, .v 60, .v 61, .v 62, .v 63, .v 64, .v 65, .v 66, .v 67, .v 68, .v 69, .v 70, .v 71, .v 72, .v 73, .v 74, .v 75, .v 76, .v 77, .v 78, .v 79, .v 80] = true := by kernel_rfl
  rw [hb] at hk
  refine ⟨.exit 2, ρT, RoundEnd.of (e := some 2) hk fun ρ hρ hd => ?_, .inr ⟨rfl, fun i hi => ?_⟩⟩
  · have r1 : ρ 1 = ρT 1 := hρ 1 (by decide)
    simp only [D_nil, D_add, D_sub, D_mul, D_and, D_or, D_xor, D_shl, D_shr, D_andNot, D_quo, D_rem, D_add_i64, D_sub_i64, D_mul_i64, D_add_u32, D_sub_u32, D_mul_u32, D_add_u8, D_sub_u8, D_mul_u8, D_eql, D_neq, D_lss, D_leq, D_gtr, D_geq, D_not, D_conv, D_eqs, D_call, D_cond, D_need, D_idx, D_sel, D_upd, D_shv, D_beq, List.map_cons, List.map_nil, Ref.den, r1] at hd
    obtain ⟨h81, -⟩ := hd
    have k81 := bit_false h81 (decide_eq_false hlt)
    refine ⟨by simp only [G_nil, G_bin, G_cmp, G_not, G_conv, G_eqs, G_call, G_cond, G_need, G_idx, G_sel, G_upd, G_shv, G_beq, List.map_cons, List.map_nil, Ref.den]; exact ⟨k81, trivial⟩, fun i hi => ?_⟩
    show ([ρ 0, ρ 1] ++ (seg ρ 2 48 ++ seg ρ 50 31)).getD i 0 = _
    rw [← ti_get ρ hi, hρ i hi]
  · have hi : i < 81 := hi
    have e1 : ρT 1 = 16 := by omega
    show ρT i = (rowFL (xs 81 ρ0)).getD i 0
    unfold rowFL
    rw [xs_get (by omega), xs_drop (by omega), xs_drop (by omega), xs_drop (by omega), xs_drop (by omega), ti_get ρT hi, e1, i1, i6, i8, e1]
    rfl
theorem okG0 : CallOK Try.prog sfns (callN Try.prog GT1 300 5) := callN_ok okGT1 mixed 300 5
theorem tiRowOK {cl : Code} (hcl : loopAt 0 tiIn = some cl) : LoopOKW Try.prog sfns tiA cl := by
  refine LoopOK.toW okG0 mixed (lf := 300) ⟨tiRI, fun ρ => (16 - ρ 1).toNat, fun ρ0 hT hp => ?_, fun ρ0 ρT hT hI => ?_⟩
  · have hp : rowFP (xs 81 ρ0) := hp
    unfold rowFP at hp
    rw [xs_get (by omega), xs_get (by omega), xs_drop (by omega), xs_drop (by omega), xs_drop (by omega)] at hp
    obtain ⟨p1, p2, p3, p4, p5, p6⟩ := hp
    exact ⟨rfl, p1, p2, by omega, by omega, rfl, p4, p5, p6, by rw [p3]; exact (addRowF_zero (seg_len _ _ _)).symm⟩
  · by_cases h : ρT 1 < 16
    · exact row_go hcl hI h
    · exact row_end hcl hI h
theorem tiInsOK : ∀ i t cl, [tiA][i]? = some t → loopAt i tiIn = some cl → LoopOKW Try.prog sfns t cl := fun i t cl h1 h2 => by
  match i, h1 with
  | 0, h1 => cases h1; exact tiRowOK h2
  | n + 1, h1 => simp at h1
/-- All rows: the state, so far. -/
def tiI (ρ0 ρ : Nat → Int) : Prop :=
  0 ≤ ρ 0 ∧ ρ 0 ≤ 16 ∧ seg ρ 1 48 = seg ρ0 1 48 ∧ seg ρ0 49 31 = List.replicate 31 0 ∧ Bd 65573 (seg ρ0 1 16) ∧ Bd 65573 (seg ρ0 17 16) ∧ seg ρ 49 31 = timN (seg ρ0 1 16) (seg ρ0 17 16) (List.replicate 31 0) (ρ 0).toNat
theorem ti_go {ρ0 ρT : Nat → Int} (hI : tiI ρ0 ρT) (hlt : ρT 0 < 16) :
    ∃ e x', RoundEndW Try.prog sfns tiIn tiT.slT tiT.memT tiT.m ρT e x' ∧ ((e = .normal ∧ tiI ρ0 x' ∧ (16 - x' 0).toNat < (16 - ρT 0).toNat) ∨ (e = .exit tiT.xid ∧ ∀ i, i < tiT.m → x' i = (sfns.g tiT.j [xs tiT.m ρ0]).getD i 0)) := by
  obtain ⟨i1, i2, i3, i4, ia, ib, i5⟩ := hI
  obtain ⟨n, hn⟩ := Int.eq_ofNat_of_zero_le i1
  have hn' : (ρT 0).toNat = n := by omega
  rw [hn'] at i5
  have hok := timN_ok (seg_len _ _ _) (seg_len _ _ _) ia ib n (by omega)
  obtain ⟨u, hu⟩ : ∃ u, u = timN (seg ρ0 1 16) (seg ρ0 17 16) (List.replicate 31 0) n := ⟨_, rfl⟩
  rw [← hu] at hok i5
  obtain ⟨o1, o2, o4⟩ := hok
  have osm : Bd 1099511627776 u := bd_mono o2 (by omega)
  have hk : roundTB Try.prog GT1 300 5 [tiA] (some tiIn) tiT [true] none [.cmp 80 .lss (.v 0) (.l 16), .cond 80 true, .need 61 [[.v 0, .l 0, .v 1, .v 2, .v 3, .v 4, .v 5, .v 6, .v 7, .v 8, .v 9, .v 10, .v 11, .v 12, .v 13, .v 14, .v 15, .v 16, .v 17, .v 18, .v 19, .v 20, .v 21, .v 22, .v 23, .v 24, .v 25, .v 26, .v 27, .v 28, .v 29, .v 30, .v 31, .v 32, .v 33, .v 34, .v 35, .v 36, .v 37, .v 38, .v 39, .v 40, .v 41, .v 42, .v 43, .v 44, .v 45, .v 46, .v 47, .v 48, .v 49, .v 50, .v 51, .v 52, .v 53, .v 54, .v 55, .v 56, .v 57, .v 58, .v 59, .v 60, .v 61, .v 62, .v 63, .v 64, .v 65, .v 66, .v 67, .v 68, .v 69, .v 70, .v 71, .v 72, .v 73, .v 74, .v 75, .v 76, .v 77, .v 78, .v 79]], .call 81 61 [[.v 0, .l 0, .v 1, .v 2, .v 3, .v 4, .v 5, .v 6, .v 7, .v 8, .v 9, .v 10, .v 11, .v 12, .v 13, .v 14, .v 15, .v 16, .v 17, .v 18, .v 19, .v 20, .v 21, .v 22, .v 23, .v 24, .v 25, .v 26, .v 27, .v 28, .v 29, .v 30, .v 31, .v 32, .v 33, .v 34, .v 35, .v 36, .v 37, .v 38, .v 39, .v 40, .v 41, .v 42, .v 43, .v 44, .v 45, .v 46, .v 47, .v 48, .v 49, .v 50, .v 51, .v 52, .v 53, .v 54, .v 55, .v 56, .v 57, .v 58, .v 59, .v 60, .v 61, .v 62, .v 63, .v 64, .v 65, .v 66, .v 67, .v 68, .v 69, .v 70, .v 71, .v 72, .v 73, .v 74, .v 75, .v 76, .v 77, .v 78, .v 79]] 81, .bin 162 .add .i64 (.v 81) (.l 1)] [.v 162, .v 83, .v 84, .v 85, .v 86, .v 87, .v 88, .v 89, .v 90, .v 91, .v 92, .v 93, .v 94, .v 95, .v 96, .v 97, .v 98, .v 99, .v 100, .v 101, .v 102, .v 103, .v 104, .v 105, .v 106, .v 107, .v 108, .v 109, .v 110, .v 111, .v 112, .v 113, .v 114, .v 115, .v 116, .v 117, .v 118, .v 119, .v 120, .v 121, .v 122, .v 123, .v 124, .v 125, .v 126, .v 127, .v 128, .v 129, .v 130, .v 131, .v 132, .v 133, .v 134, .v 135, .v 136, .v 137, .v 138, .v 139, .v 140, .v 141, .v 142, .v 143, .v 144, .v 145, .v 146, .v 147, .v 148, .v 149, .v 150, .v 151, .v 152, .v 153, .v 154, .v 155, .v 156, .v 157, .v 158, .v 159, .v 160, .v 161] = true := by kernel_rfl
  refine ⟨.normal, fun j => ([ρT 0 + 1] ++ (seg ρ0 1 48 ++ addRowF n 16 (seg ρ0 1 16) (seg ρ0 17 16) u)).getD j 0, RoundEndW.of okGT1 mixed tiInsOK (e := none) hk fun ρ hρ hd => ?_, .inl ⟨rfl, ?_⟩⟩
  · have hρ : ∀ i, i < 80 → ρ i = ρT i := hρ
    have r0 : ρ 0 = (n : Int) := by rw [hρ 0 (by decide), hn]
    have sm : seg ρ 1 48 = seg ρ0 1 48 := (seg_congr fun i hi => hρ _ (by omega)).trans i3
    obtain ⟨sa, sb⟩ := thirds sm
    have sb : seg ρ 17 16 = seg ρ0 17 16 := sb
    have st : seg ρ 49 31 = u := (seg_congr fun i hi => hρ _ (by omega)).trans i5
    simp only [D_nil, D_add, D_sub, D_mul, D_and, D_or, D_xor, D_shl, D_shr, D_andNot, D_quo, D_rem, D_add_i64, D_sub_i64, D_mul_i64, D_add_u32, D_sub_u32, D_mul_u32, D_add_u8, D_sub_u8, D_mul_u8, D_eql, D_neq, D_lss, D_leq, D_gtr, D_geq, D_not, D_conv, D_eqs, D_call, D_cond, D_need, D_idx, D_sel, D_upd, D_shv, D_beq, List.map_cons, List.map_nil, Ref.den] at hd
    obtain ⟨h80, h81, h162, -⟩ := hd
    have s81 : ∀ i, i < 81 → ρ (81 + i) = ([ρ 0, 16] ++ (seg ρ 1 48 ++ addRowF (ρ 0).toNat 16 (seg ρ 1 16) (seg ρ 17 16) (seg ρ 49 31))).getD i 0 := fun i hi => h81 i hi
    rw [sm, sa, sb, st, r0, Int.toNat_natCast] at s81
    obtain ⟨v0, v1, va, vb⟩ := after2 (a := (n : Int)) (b := 16) (seg_len ρ0 1 48) (addRowF_len n 16 (seg ρ0 1 16) (seg ρ0 17 16) u) rfl
    have q0 : ρ 81 = n := s81 0 (by decide)
    have qa : seg ρ 83 48 = seg ρ0 1 48 := by
      rw [← va]; exact seg_congr fun i hi => by rw [show 83 + i = 81 + (2 + i) by omega]; exact s81 _ (by omega)
    have qb : seg ρ 131 31 = addRowF n 16 (seg ρ0 1 16) (seg ρ0 17 16) u := by
      rw [← vb]; exact seg_congr fun i hi => by rw [show 131 + i = 81 + (50 + i) by omega]; exact s81 _ (by omega)
    rw [q0, IntKind.wrap_i64] at h162
    have k80 := bit_true h80 (decide_eq_true (show ρ 0 < 16 by omega))
    refine ⟨?_, fun j hj => ?_⟩
    · simp only [G_nil, G_bin, G_cmp, G_not, G_conv, G_eqs, G_call, G_cond, G_need, G_idx, G_sel, G_upd, G_shv, G_beq, List.map_cons, List.map_nil, Ref.den]
      refine ⟨k80, ?_, trivial⟩
      show rowFP ([ρ 0, 0] ++ (seg ρ 1 48 ++ seg ρ 49 31))
      refine ⟨?_, ?_, rfl, ?_, ?_, ?_⟩
      · show 0 ≤ ρ 0; omega
      · show ρ 0 < 16; omega
      · show Bd 65573 (seg ρ 1 16); rw [sa]; exact ia
      · show Bd 65573 (seg ρ 17 16); rw [sb]; exact ib
      · show Bd 1099511627776 (seg ρ 49 31); rw [st]; exact osm
    · show ([ρ 162] ++ (seg ρ 83 48 ++ seg ρ 131 31)).getD j 0 = _
      rw [qa, qb, show ρ 162 = ρT 0 + 1 by omega]
  · obtain ⟨x', hx⟩ : ∃ x', x' = fun j => ([ρT 0 + 1] ++ (seg ρ0 1 48 ++ addRowF n 16 (seg ρ0 1 16) (seg ρ0 17 16) u)).getD j 0 := ⟨_, rfl⟩
    rw [← hx]
    have x0 : x' 0 = ρT 0 + 1 := by rw [hx]; rfl
    have xa : seg x' 1 48 = seg ρ0 1 48 := by
      have := seg_mid [ρT 0 + 1] (seg ρ0 1 48) (addRowF n 16 (seg ρ0 1 16) (seg ρ0 17 16) u)
      rw [seg_len] at this; rw [hx]; exact this
    have xb : seg x' 49 31 = addRowF n 16 (seg ρ0 1 16) (seg ρ0 17 16) u := by
      have := seg_end [ρT 0 + 1] (seg ρ0 1 48) (addRowF n 16 (seg ρ0 1 16) (seg ρ0 17 16) u)
      rw [seg_len, addRowF_len] at this; rw [hx]; exact this
    refine ⟨⟨by rw [x0]; omega, by rw [x0]; omega, xa, i4, ia, ib, ?_⟩, by rw [x0]; omega⟩
    rw [xb, x0, show (ρT 0 + 1).toNat = n + 1 by omega, hu]; rfl
theorem ti_end {ρ0 ρT : Nat → Int} (hI : tiI ρ0 ρT) (hlt : ¬ ρT 0 < 16) :
    ∃ e x', RoundEndW Try.prog sfns tiIn tiT.slT tiT.memT tiT.m ρT e x' ∧ ((e = .normal ∧ tiI ρ0 x' ∧ (16 - x' 0).toNat < (16 - ρT 0).toNat) ∨ (e = .exit tiT.xid ∧ ∀ i, i < tiT.m → x' i = (sfns.g tiT.j [xs tiT.m ρ0]).getD i 0)) := by
  obtain ⟨i1, i2, i3, i4, ia, ib, i5⟩ := hI
  have hk : roundTB Try.prog GT1 300 5 [tiA] (some tiIn) tiT [false] (some 0) [.cmp 80 .lss (.v 0) (.l 16), .cond 80 false] [.v 0, .v 1, .v 2, .v 3, .v 4, .v 5, .v 6, .v 7, .v 8, .v 9, .v 10, .v 11, .v 12, .v 13, .v 14, .v 15, .v 16, .v 17, .v 18, .v 19, .v 20, .v 21, .v 22, .v 23, .v 24, .v 25, .v 26, .v 27, .v 28, .v 29, .v 30, .v 31, .v 32, .v 33, .v 34, .v 35, .v 36, .v 37, .v 38, .v 39, .v 40, .v 41, .v 42, .v 43, .v 44, .v 45, .v 46, .v 47, .v 48, .v 49, .v 50, .v 51, .v 52, .v 53, .v 54, .v 55, .v 56, .v 57, .v 58, .v 59, .v 60, .v 61, .v 62, .v 63, .v 64, .v 65, .v 66, .v 67, .v 68, .v 69, .v 70, .v 71, .v 72, .v 73, .v 74, .v 75, .v 76, .v 77, .v 78, .v 79] = true := by kernel_rfl
  refine ⟨.exit 0, ρT, RoundEndW.of okGT1 mixed tiInsOK (e := some 0) hk fun ρ hρ hd => ?_, .inr ⟨rfl, fun i hi => ?_⟩⟩
  · have r0 : ρ 0 = ρT 0 := hρ 0 (by decide)
    simp only [D_nil, D_add, D_sub, D_mul, D_and, D_or, D_xor, D_shl, D_shr, D_andNot, D_quo, D_rem, D_add_i64, D_sub_i64, D_mul_i64, D_add_u32, D_sub_u32, D_mul_u32, D_add_u8, D_sub_u8, D_mul_u8, D_eql, D_neq, D_lss, D_leq, D_gtr, D_geq, D_not, D_conv, D_eqs, D_call, D_cond, D_need, D_idx, D_sel, D_upd, D_shv, D_beq, List.map_cons, List.map_nil, Ref.den, r0] at hd
    obtain ⟨h80, -⟩ := hd
    have k80 := bit_false h80 (decide_eq_false hlt)
    refine ⟨by simp only [G_nil, G_bin, G_cmp, G_not, G_conv, G_eqs, G_call, G_cond, G_need, G_idx, G_sel, G_upd, G_shv, G_beq, List.map_cons, List.map_nil, Ref.den]; exact ⟨k80, trivial⟩, fun i hi => ?_⟩
    show ([ρ 0] ++ (seg ρ 1 48 ++ seg ρ 49 31)).getD i 0 = _
    rw [← ti_get' ρ hi, hρ i hi]
  · have hi : i < 80 := hi
    have e1 : ρT 0 = 16 := by omega
    show ρT i = (timL (xs 80 ρ0)).getD i 0
    unfold timL
    rw [xs_drop (by omega), xs_drop (by omega), xs_drop (by omega), xs_drop (by omega), ti_get' ρT hi, e1, i3, i4, i5, e1]
    rfl
theorem fold_step {x y m o : Int} (hx : -70368744177664 ≤ x ∧ x ≤ 70368744177664) (hy : -70368744177664 ≤ y ∧ y ≤ 70368744177664) (h1 : m = IntKind.i64.wrap (38 * y)) (h2 : o = IntKind.i64.wrap (x + m)) : o = x + 38 * y := by
  rw [IntKind.wrap_i64] at h1 h2; omega
theorem fold_list {l : List Int} {t0 t1 t2 t3 t4 t5 t6 t7 t8 t9 t10 t11 t12 t13 t14 t15 u0 u1 u2 u3 u4 u5 u6 u7 u8 u9 u10 u11 u12 u13 u14 : Int} (h : l = [t0, t1, t2, t3, t4, t5, t6, t7, t8, t9, t10, t11, t12, t13, t14, t15, u0, u1, u2, u3, u4, u5, u6, u7, u8, u9, u10, u11, u12, u13, u14]) :
    foldF l = [t0 + 38 * u0, t1 + 38 * u1, t2 + 38 * u2, t3 + 38 * u3, t4 + 38 * u4, t5 + 38 * u5, t6 + 38 * u6, t7 + 38 * u7, t8 + 38 * u8, t9 + 38 * u9, t10 + 38 * u10, t11 + 38 * u11, t12 + 38 * u12, t13 + 38 * u13, t14 + 38 * u14, t15] := by subst h; rfl
theorem okFTimes : CtrOK Try.prog sfns cFTimes := by
  refine CtrOK.ofW (t := tiT) (k := 0) (fn := Try.f45) (body := tiBody) okGT1 mixed (lf := 300) (d := 5) (by kernel_rfl) (by kernel_rfl) ?_ rfl fun w vs xs ha hp => ?_
  · intro cl hcl
    have hcl' : tiIn = cl := by unfold tiIn; rw [hcl]; rfl
    subst hcl'
    refine ⟨tiI, fun ρ => (16 - ρ 0).toNat, fun ρ0 hT hp => ?_, fun ρ0 ρT hT hI => ?_⟩
    · have hp : timP (Go.Sx.xs 80 ρ0) := hp
      unfold timP at hp
      rw [xs_get (by omega), xs_drop (by omega), xs_drop (by omega), xs_drop (by omega)] at hp
      obtain ⟨p1, p2, p3, p4⟩ := hp
      exact ⟨by omega, by omega, rfl, p2, p3, p4, by rw [p1, p2]; rfl⟩
    · by_cases h : ρT 0 < 16
      · exact ti_go hI h
      · exact ti_end hI h
  · obtain ⟨v, u, a, b, rfl, rfl, ⟨la, -, ia⟩, ⟨lb, -, ib⟩⟩ := open2 ha
    obtain ⟨fa, fb⟩ : FF a ∧ FF b := hp
    have bA := ff_bd fa
    have bB := ff_bd fb
    refine WayL.of (dec := []) (fs := [.need 60 [[.l 0, .v 0, .v 1, .v 2, .v 3, .v 4, .v 5, .v 6, .v 7, .v 8, .v 9, .v 10, .v 11, .v 12, .v 13, .v 14, .v 15, .v 16, .v 17, .v 18, .v 19, .v 20, .v 21, .v 22, .v 23, .v 24, .v 25, .v 26, .v 27, .v 28, .v 29, .v 30, .v 31, .l 0, .l 0, .l 0, .l 0, .l 0, .l 0, .l 0, .l 0, .l 0, .l 0, .l 0, .l 0, .l 0, .l 0, .l 0, .l 0, .l 0, .l 0, .l 0, .l 0, .l 0, .l 0, .l 0, .l 0, .l 0, .l 0, .l 0, .l 0, .l 0, .l 0, .l 0, .l 0, .l 0, .l 0, .l 0, .l 0, .l 0, .l 0, .l 0, .l 0, .l 0, .l 0, .l 0, .l 0, .l 0, .l 0, .l 0]], .call 32 60 [[.l 0, .v 0, .v 1, .v 2, .v 3, .v 4, .v 5, .v 6, .v 7, .v 8, .v 9, .v 10, .v 11, .v 12, .v 13, .v 14, .v 15, .v 16, .v 17, .v 18, .v 19, .v 20, .v 21, .v 22, .v 23, .v 24, .v 25, .v 26, .v 27, .v 28, .v 29, .v 30, .v 31, .l 0, .l 0, .l 0, .l 0, .l 0, .l 0, .l 0, .l 0, .l 0, .l 0, .l 0, .l 0, .l 0, .l 0, .l 0, .l 0, .l 0, .l 0, .l 0, .l 0, .l 0, .l 0, .l 0, .l 0, .l 0, .l 0, .l 0, .l 0, .l 0, .l 0, .l 0, .l 0, .l 0, .l 0, .l 0, .l 0, .l 0, .l 0, .l 0, .l 0, .l 0, .l 0, .l 0, .l 0, .l 0, .l 0, .l 0]] 80, .bin 112 .mul .i64 (.l 38) (.v 97), .bin 113 .add .i64 (.v 81) (.v 112), .bin 114 .mul .i64 (.l 38) (.v 98), .bin 115 .add .i64 (.v 82) (.v 114), .bin 116 .mul .i64 (.l 38) (.v 99), .bin 117 .add .i64 (.v 83) (.v 116), .bin 118 .mul .i64 (.l 38) (.v 100), .bin 119 .add .i64 (.v 84) (.v 118), .bin 120 .mul .i64 (.l 38) (.v 101), .bin 121 .add .i64 (.v 85) (.v 120), .bin 122 .mul .i64 (.l 38) (.v 102), .bin 123 .add .i64 (.v 86) (.v 122), .bin 124 .mul .i64 (.l 38) (.v 103), .bin 125 .add .i64 (.v 87) (.v 124), .bin 126 .mul .i64 (.l 38) (.v 104), .bin 127 .add .i64 (.v 88) (.v 126), .bin 128 .mul .i64 (.l 38) (.v 105), .bin 129 .add .i64 (.v 89) (.v 128), .bin 130 .mul .i64 (.l 38) (.v 106), .bin 131 .add .i64 (.v 90) (.v 130), .bin 132 .mul .i64 (.l 38) (.v 107), .bin 133 .add .i64 (.v 91) (.v 132), .bin 134 .mul .i64 (.l 38) (.v 108), .bin 135 .add .i64 (.v 92) (.v 134), .bin 136 .mul .i64 (.l 38) (.v 109), .bin 137 .add .i64 (.v 93) (.v 136), .bin 138 .mul .i64 (.l 38) (.v 110), .bin 139 .add .i64 (.v 94) (.v 138), .bin 140 .mul .i64 (.l 38) (.v 111), .bin 141 .add .i64 (.v 95) (.v 140), .need 50 [[.v 113, .v 115, .v 117, .v 119, .v 121, .v 123, .v 125, .v 127, .v 129, .v 131, .v 133, .v 135, .v 137, .v 139, .v 141, .v 96]], .call 142 50 [[.v 113, .v 115, .v 117, .v 119, .v 121, .v 123, .v 125, .v 127, .v 129, .v 131, .v 133, .v 135, .v 137, .v 139, .v 141, .v 96]] 16, .need 50 [[.v 142, .v 143, .v 144, .v 145, .v 146, .v 147, .v 148, .v 149, .v 150, .v 151, .v 152, .v 153, .v 154, .v 155, .v 156, .v 157]], .call 158 50 [[.v 142, .v 143, .v 144, .v 145, .v 146, .v 147, .v 148, .v 149, .v 150, .v 151, .v 152, .v 153, .v 154, .v 155, .v 156, .v 157]] 16]) (refs := [.v 158, .v 159, .v 160, .v 161, .v 162, .v 163, .v 164, .v 165, .v 166, .v 167, .v 168, .v 169, .v 170, .v 171, .v 172, .v 173]) (by kernel_rfl) fun ρ hρ hd => ?_
    have ea : seg ρ 0 16 = a := seg_of (fun i hi => by
      rw [Nat.zero_add, hρ i (by show i < 32; omega)]
      simp only [flat, List.flatten_cons, List.flatten_nil, List.append_nil, List.getD_eq_getElem?_getD]
      rw [List.getElem?_append_left (by omega)]) la
    have eb : seg ρ 16 16 = b := seg_of (fun i hi => by
      rw [hρ (16 + i) (by show 16 + i < 32; omega)]
      simp only [flat, List.flatten_cons, List.flatten_nil, List.append_nil, List.getD_eq_getElem?_getD]
      rw [List.getElem?_append_right (by omega), la, Nat.add_sub_cancel_left]) lb
    simp only [D_nil, D_add, D_sub, D_mul, D_and, D_or, D_xor, D_shl, D_shr, D_andNot, D_quo, D_rem, D_add_i64, D_sub_i64, D_mul_i64, D_add_u32, D_sub_u32, D_mul_u32, D_add_u8, D_sub_u8, D_mul_u8, D_eql, D_neq, D_lss, D_leq, D_gtr, D_geq, D_not, D_conv, D_eqs, D_call, D_cond, D_need, D_idx, D_sel, D_upd, D_shv, D_beq, List.map_cons, List.map_nil, Ref.den] at hd
    obtain ⟨h32, h112, h113, h114, h115, h116, h117, h118, h119, h120, h121, h122, h123, h124, h125, h126, h127, h128, h129, h130, h131, h132, h133, h134, h135, h136, h137, h138, h139, h140, h141, h142, h158, -⟩ := hd
    have s32 : ∀ i, i < 80 → ρ (32 + i) = ([16] ++ ((seg ρ 0 16 ++ (seg ρ 16 16 ++ List.replicate 16 0)) ++ timN (seg ρ 0 16) (seg ρ 16 16) (List.replicate 31 0) 16)).getD i 0 := fun i hi => h32 i hi
    rw [ea, eb] at s32
    have hok := timN_ok la lb bA bB 16 (by omega)
    obtain ⟨z, hz⟩ : ∃ z, z = timN a b (List.replicate 31 0) 16 := ⟨_, rfl⟩
    rw [← hz] at s32 hok
    obtain ⟨o1, o2, -⟩ := hok
    have o2 : Bd 70368744177664 z := bd_mono o2 (by decide)
    have l2 : (a ++ (b ++ List.replicate 16 (0 : Int))).length = 48 := by rw [List.length_append, List.length_append, List.length_replicate]; omega
    have st : seg ρ 81 31 = z := by
      have := seg_end [16] (a ++ (b ++ List.replicate 16 0)) z
      rw [l2, o1] at this
      rw [← this]
      exact seg_congr fun i hi => by rw [show 81 + i = 32 + (49 + i) by omega]; exact s32 _ (by omega)
    have g : ∀ i, i < 31 → -70368744177664 ≤ ρ (81 + i) ∧ ρ (81 + i) ≤ 70368744177664 := fun i hi => by
      have h := bd_get (show Bd 70368744177664 (seg ρ 81 31) by rw [st]; exact o2) (by decide) i
      rwa [seg_get hi] at h
    have p0 := fold_step (g 0 (by decide)) (g 16 (by decide)) h112 h113
    have p1 := fold_step (g 1 (by decide)) (g 17 (by decide)) h114 h115
    have p2 := fold_step (g 2 (by decide)) (g 18 (by decide)) h116 h117
    have p3 := fold_step (g 3 (by decide)) (g 19 (by decide)) h118 h119
    have p4 := fold_step (g 4 (by decide)) (g 20 (by decide)) h120 h121
    have p5 := fold_step (g 5 (by decide)) (g 21 (by decide)) h122 h123
    have p6 := fold_step (g 6 (by decide)) (g 22 (by decide)) h124 h125
    have p7 := fold_step (g 7 (by decide)) (g 23 (by decide)) h126 h127
    have p8 := fold_step (g 8 (by decide)) (g 24 (by decide)) h128 h129
    have p9 := fold_step (g 9 (by decide)) (g 25 (by decide)) h130 h131
    have p10 := fold_step (g 10 (by decide)) (g 26 (by decide)) h132 h133
    have p11 := fold_step (g 11 (by decide)) (g 27 (by decide)) h134 h135
    have p12 := fold_step (g 12 (by decide)) (g 28 (by decide)) h136 h137
    have p13 := fold_step (g 13 (by decide)) (g 29 (by decide)) h138 h139
    have p14 := fold_step (g 14 (by decide)) (g 30 (by decide)) h140 h141
    have sf : [ρ 113, ρ 115, ρ 117, ρ 119, ρ 121, ρ 123, ρ 125, ρ 127, ρ 129, ρ 131, ρ 133, ρ 135, ρ 137, ρ 139, ρ 141, ρ 96] = foldF z := by
      rw [fold_list (l := z) st.symm, p0, p1, p2, p3, p4, p5, p6, p7, p8, p9, p10, p11, p12, p13, p14]
    have hb : Bd 4398046511104 [ρ 113, ρ 115, ρ 117, ρ 119, ρ 121, ρ 123, ρ 125, ρ 127, ρ 129, ρ 131, ρ 133, ρ 135, ρ 137, ρ 139, ρ 141, ρ 96] := by
      rw [sf]
      have hzb : Bd 68797093264 z := by rw [hz]; exact bd_mono (timN_ok la lb bA bB 16 (by omega)).2.1 (by decide)
      exact bd_mono (foldF_bd (m := 68797093264) (by decide) hzb) (by decide)
    obtain ⟨r1, r2, r3⟩ := twice (n := 142) (by rfl) hb h142 h158
    refine ⟨?_, ?_⟩
    · simp only [G_nil, G_bin, G_cmp, G_not, G_conv, G_eqs, G_call, G_cond, G_need, G_idx, G_sel, G_upd, G_shv, G_beq, List.map_cons, List.map_nil, Ref.den]
      refine ⟨⟨rfl, rfl, ?_, ?_⟩, r2, r3, trivial⟩
      · show Bd 65573 (seg ρ 0 16); rw [ea]; exact bA
      · show Bd 65573 (seg ρ 16 16); rw [eb]; exact bB
    · show seg ρ 158 16 = mulF a b
      rw [r1, sf, hz]; rfl
#print axioms okFTimes
end Go.Proofs.Ytgjjndbogghfcaa
