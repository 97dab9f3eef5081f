/- Numbers modulo L, the paper's own functions: what is shown of Mod, of 64 bytes. No condition. -/
import Derived.Test.YtokndemdmkaofaaRk3
namespace Go.Proofs.Ytokndemdmkaofaa
open Go.RowKit Go.Bx Go.Sx
set_option linter.unusedSimpArgs false
set_option maxRecDepth 100000
def cMod64a : Ctr := ⟨28, 52, [.row .u8 37 64], [.arr .u8 32]⟩
noncomputable def Mod64aT : LoopT := ⟨[.c (.slc 0 0 64 64), .any, .c (.ptr 1 0), .c (.ptr 2 0), .c (.ptr 3 0), .c (.int .i64 (.v 0)), .any, .any, .any, .any, .any, .c (.slc 0 0 64 64), .c (.int .i64 (.l 64)), .c (.int .i64 (.l 512)), .c (.int .i64 (.l 511)), .any, .any, .any, .any, .any, .any, .any, .any, .any, .any, .any, .any, .any, .any, .any, .any, .any, .any, .any, .any, .any, .any, .any, .any, .any, .any, .any, .any, .any, .any, .any, .any, .any, .any, .any, .any, .any, .any, .any], [some ⟨37, [.int .u8 (.v 1), .int .u8 (.v 2), .int .u8 (.v 3), .int .u8 (.v 4), .int .u8 (.v 5), .int .u8 (.v 6), .int .u8 (.v 7), .int .u8 (.v 8), .int .u8 (.v 9), .int .u8 (.v 10), .int .u8 (.v 11), .int .u8 (.v 12), .int .u8 (.v 13), .int .u8 (.v 14), .int .u8 (.v 15), .int .u8 (.v 16), .int .u8 (.v 17), .int .u8 (.v 18), .int .u8 (.v 19), .int .u8 (.v 20), .int .u8 (.v 21), .int .u8 (.v 22), .int .u8 (.v 23), .int .u8 (.v 24), .int .u8 (.v 25), .int .u8 (.v 26), .int .u8 (.v 27), .int .u8 (.v 28), .int .u8 (.v 29), .int .u8 (.v 30), .int .u8 (.v 31), .int .u8 (.v 32), .int .u8 (.v 33), .int .u8 (.v 34), .int .u8 (.v 35), .int .u8 (.v 36), .int .u8 (.v 37), .int .u8 (.v 38), .int .u8 (.v 39), .int .u8 (.v 40), .int .u8 (.v 41), .int .u8 (.v 42), .int .u8 (.v 43), .int .u8 (.v 44), .int .u8 (.v 45), .int .u8 (.v 46), .int .u8 (.v 47), .int .u8 (.v 48), .int .u8 (.v 49), .int .u8 (.v 50), .int .u8 (.v 51), .int .u8 (.v 52), .int .u8 (.v 53), .int .u8 (.v 54), .int .u8 (.v 55), .int .u8 (.v 56), .int .u8 (.v 57), .int .u8 (.v 58), .int .u8 (.v 59), .int .u8 (.v 60), .int .u8 (.v 61), .int .u8 (.v 62), .int .u8 (.v 63), .int .u8 (.v 64)]⟩, some ⟨33, [.int .u8 (.l 0), .int .u8 (.l 0), .int .u8 (.l 0), .int .u8 (.l 0), .int .u8 (.l 0), .int .u8 (.l 0), .int .u8 (.l 0), .int .u8 (.l 0), .int .u8 (.l 0), .int .u8 (.l 0), .int .u8 (.l 0), .int .u8 (.l 0), .int .u8 (.l 0), .int .u8 (.l 0), .int .u8 (.l 0), .int .u8 (.l 0), .int .u8 (.l 0), .int .u8 (.l 0), .int .u8 (.l 0), .int .u8 (.l 0), .int .u8 (.l 0), .int .u8 (.l 0), .int .u8 (.l 0), .int .u8 (.l 0), .int .u8 (.l 0), .int .u8 (.l 0), .int .u8 (.l 0), .int .u8 (.l 0), .int .u8 (.l 0), .int .u8 (.l 0), .int .u8 (.l 0), .int .u8 (.l 0)]⟩, some ⟨33, [.int .u8 (.l 237), .int .u8 (.l 211), .int .u8 (.l 245), .int .u8 (.l 92), .int .u8 (.l 26), .int .u8 (.l 99), .int .u8 (.l 18), .int .u8 (.l 88), .int .u8 (.l 214), .int .u8 (.l 156), .int .u8 (.l 247), .int .u8 (.l 162), .int .u8 (.l 222), .int .u8 (.l 249), .int .u8 (.l 222), .int .u8 (.l 20), .int .u8 (.l 0), .int .u8 (.l 0), .int .u8 (.l 0), .int .u8 (.l 0), .int .u8 (.l 0), .int .u8 (.l 0), .int .u8 (.l 0), .int .u8 (.l 0), .int .u8 (.l 0), .int .u8 (.l 0), .int .u8 (.l 0), .int .u8 (.l 0), .int .u8 (.l 0), .int .u8 (.l 0), .int .u8 (.l 0), .int .u8 (.l 16)]⟩, some ⟨33, [.int .u8 (.v 65), .int .u8 (.v 66), .int .u8 (.v 67), .int .u8 (.v 68), .int .u8 (.v 69), .int .u8 (.v 70), .int .u8 (.v 71), .int .u8 (.v 72), .int .u8 (.v 73), .int .u8 (.v 74), .int .u8 (.v 75), .int .u8 (.v 76), .int .u8 (.v 77), .int .u8 (.v 78), .int .u8 (.v 79), .int .u8 (.v 80), .int .u8 (.v 81), .int .u8 (.v 82), .int .u8 (.v 83), .int .u8 (.v 84), .int .u8 (.v 85), .int .u8 (.v 86), .int .u8 (.v 87), .int .u8 (.v 88), .int .u8 (.v 89), .int .u8 (.v 90), .int .u8 (.v 91), .int .u8 (.v 92), .int .u8 (.v 93), .int .u8 (.v 94), .int .u8 (.v 95), .int .u8 (.v 96)]⟩], 97, 33, 0, [.l 511, .v 0, .v 1, .v 2, .v 3, .v 4, .v 5, .v 6, .v 7, .v 8, .v 9, .v 10, .v 11, .v 12, .v 13, .v 14, .v 15, .v 16, .v 17, .v 18, .v 19, .v 20, .v 21, .v 22, .v 23, .v 24, .v 25, .v 26, .v 27, .v 28, .v 29, .v 30, .v 31, .v 32, .v 33, .v 34, .v 35, .v 36, .v 37, .v 38, .v 39, .v 40, .v 41, .v 42, .v 43, .v 44, .v 45, .v 46, .v 47, .v 48, .v 49, .v 50, .v 51, .v 52, .v 53, .v 54, .v 55, .v 56, .v 57, .v 58, .v 59, .v 60, .v 61, .v 62, .v 63, .l 0, .l 0, .l 0, .l 0, .l 0, .l 0, .l 0, .l 0, .l 0, .l 0, .l 0, .l 0, .l 0, .l 0, .l 0, .l 0, .l 0, .l 0, .l 0, .l 0, .l 0, .l 0, .l 0, .l 0, .l 0, .l 0, .l 0, .l 0, .l 0, .l 0, .l 0, .l 0]⟩
def Mod64aI (ρ0 ρ : Nat → Int) : Prop :=
  seg ρ 1 64 = seg ρ0 1 64 ∧ -1 ≤ ρ 0 ∧ ρ 0 ≤ 511 ∧ seg ρ 65 32 = dg 256 32 (dv 256 (seg ρ0 1 64) / 2 ^ (ρ 0 + 1).toNat % LL)
theorem Mod64a_dig {ρ : Nat → Int} (hT : TOk Mod64aT.slT Mod64aT.memT ρ) : Dig 256 (seg ρ 1 64) := by
  have h1 : ∀ c ∈ (List.range 64).map (fun i => C.int .u8 (.v (1 + i))), C.inr ρ c := hT.m _ (List.mem_cons_self ..)
  exact dig8s (seg_inr h1)
theorem Mod64a_get (ρ : Nat → Int) {i : Nat} (hi : i < 97) : ρ i = ([ρ 0] ++ (seg ρ 1 64 ++ seg ρ 65 32)).getD i 0 := by
  rw [show [ρ 0] ++ (seg ρ 1 64 ++ seg ρ 65 32) = seg ρ 0 97 from rfl, seg_get hi, Nat.zero_add]
theorem Mod64a_after {ρ0 ρT : Nat → Int} (hI : Mod64aI ρ0 ρT) (hge : 0 ≤ ρT 0) {x' : Nat → Int} (hx : x' = fun i => ([ρT 0 - 1] ++ (seg ρT 1 64 ++ dg 256 32 (dv 256 (seg ρ0 1 64) / 2 ^ (ρT 0).toNat % LL))).getD i 0) : Mod64aI ρ0 x' ∧ (x' 0 + 1).toNat < (ρT 0 + 1).toNat := by
  obtain ⟨i1, i2, i3, i4⟩ := hI
  have x0 : x' 0 = ρT 0 - 1 := by rw [hx]; rfl
  have l1 : (seg ρT 1 64).length = 64 := seg_len _ _ _
  have xa : seg x' 1 64 = seg ρT 1 64 := by
    have := seg_mid [ρT 0 - 1] (seg ρT 1 64) (dg 256 32 (dv 256 (seg ρ0 1 64) / 2 ^ (ρT 0).toNat % LL))
    rw [l1] at this; rw [hx]; exact this
  have xb : seg x' 65 32 = dg 256 32 (dv 256 (seg ρ0 1 64) / 2 ^ (ρT 0).toNat % LL) := by
    have := seg_end [ρT 0 - 1] (seg ρT 1 64) (dg 256 32 (dv 256 (seg ρ0 1 64) / 2 ^ (ρT 0).toNat % LL))
    rw [l1, dg_len] at this; rw [hx]; exact this
  exact ⟨⟨by rw [xa, i1], by rw [x0]; omega, by rw [x0]; omega, by rw [xb, x0, show (ρT 0 - 1 + 1).toNat = (ρT 0).toNat by congr 1; omega]⟩, by rw [x0]; omega⟩
/-- The bit that comes in, and the number twice. -/
theorem Mod64a_mid {ρ0 ρT ρ : Nat → Int} (hT : TOk Mod64aT.slT Mod64aT.memT ρT) (hI : Mod64aI ρ0 ρT) {n : Nat} (hn : ρT 0 = n) (hρ : ∀ i, i < 97 → ρ i = ρT i)
    (g1 : ρ 98 = (n : Int) / 8) (g2 : ρ 99 = (seg ρ 1 64).getD (ρ 98).toNat 0) (g3 : ρ 100 = (n : Int) % 8) (g4 : ρ 101 = ρ 100) (g5 : ρ 102 = shvZ false .u8 (ρ 99) (ρ 101)) (g6 : binZ .and .u8 (ρ 102) 1 = some (ρ 103)) :
    (ρ 103 = 0 ∨ ρ 103 = 1) ∧ 2 * (dv 256 (seg ρ0 1 64) / 2 ^ (n + 1) % LL) + ρ 103 = 2 * (dv 256 (seg ρ0 1 64) / 2 ^ (n + 1) % LL) + dv 256 (seg ρ0 1 64) / 2 ^ n % 2 := by
  obtain ⟨i1, i2, i3, i4⟩ := hI
  have dB := Mod64a_dig hT
  have sb : seg ρ 1 64 = seg ρT 1 64 := seg_congr fun i hi => hρ _ (by omega)
  have lb : (seg ρT 1 64).length = 64 := seg_len _ _ _
  have e2 : ρ 99 = (seg ρ0 1 64).getD (n / 8) 0 := by
    rw [g2, sb, i1, g1, show ((n : Int) / 8).toNat = n / 8 by omega]
  have e5 := shv_r (n % 8) (by show n % 8 ≤ 8; omega) g5 (by rw [g4, g3]; omega)
  have e6 := k_and 1 (by decide) rfl g6
  rw [show (2 : Int) ^ 1 = 2 by decide] at e6
  have hb := bit_of (w := 8) (l := seg ρ0 1 64) (i := n / 8) (r := n % 8) (by rw [eight, ← i1]; exact dB) (by rw [← i1, lb]; omega) (by omega)
  rw [eight, show 8 * (n / 8) + n % 8 = n by omega] at hb
  have e7 : ρ 103 = dv 256 (seg ρ0 1 64) / 2 ^ n % 2 := by rw [e6, e5, e2, hb]
  exact ⟨by omega, by rw [e7]⟩
theorem Mod64a_go {cl : Code} (hb : loopAt 0 modB = some cl) {ρ0 ρT : Nat → Int} (hT : TOk Mod64aT.slT Mod64aT.memT ρT) (hI : Mod64aI ρ0 ρT) (hge : 0 ≤ ρT 0) :
    ∃ e x', RoundEnd Try.prog sfns (callN Try.prog RT 300 5) 300 cl Mod64aT.slT Mod64aT.memT Mod64aT.m ρT e x' ∧ ((e = .normal ∧ Mod64aI ρ0 x' ∧ (x' 0 + 1).toNat < (ρT 0 + 1).toNat) ∨ (e = .exit Mod64aT.xid ∧ ∀ i, i < Mod64aT.m → x' i = (sfns.g Mod64aT.j [xs Mod64aT.m ρ0]).getD i 0)) := by
  obtain ⟨i1, i2, i3, i4⟩ := id hI
  obtain ⟨n, hn⟩ := Int.eq_ofNat_of_zero_le hge
  have e0 : (ρT 0 + 1).toNat = n + 1 := by omega
  have e0' : (ρT 0).toNat = n := by omega
  obtain ⟨X, hX⟩ : ∃ X, X = dv 256 (seg ρ0 1 64) := ⟨_, rfl⟩
  obtain ⟨V, hV⟩ : ∃ V, V = X / 2 ^ (n + 1) % LL := ⟨_, rfl⟩
  have hL := LL256
  have v0 : 0 ≤ V := by rw [hV]; exact Int.emod_nonneg _ (by omega)
  have v1 : V < LL := by rw [hV]; exact Int.emod_lt_of_pos _ hL.2
  rw [e0, ← hX, ← hV] at i4
  have cs := cut_step X n
  rw [← hV] at cs
  by_cases hcmp : LL ≤ 2 * V + X / 2 ^ n % 2
  · have hk : roundB Try.prog RT 300 5 (loopAt 0 modB) Mod64aT [true,true] none [.cmp 97 .geq (.v 0) (.l 0), .cond 97 true, .bin 98 .quo .i64 (.v 0) (.l 8), .idx 98 64, .sel 99 [.v 1, .v 2, .v 3, .v 4, .v 5, .v 6, .v 7, .v 8, .v 9, .v 10, .v 11, .v 12, .v 13, .v 14, .v 15, .v 16, .v 17, .v 18, .v 19, .v 20, .v 21, .v 22, .v 23, .v 24, .v 25, .v 26, .v 27, .v 28, .v 29, .v 30, .v 31, .v 32, .v 33, .v 34, .v 35, .v 36, .v 37, .v 38, .v 39, .v 40, .v 41, .v 42, .v 43, .v 44, .v 45, .v 46, .v 47, .v 48, .v 49, .v 50, .v 51, .v 52, .v 53, .v 54, .v 55, .v 56, .v 57, .v 58, .v 59, .v 60, .v 61, .v 62, .v 63, .v 64] 98, .bin 100 .rem .i64 (.v 0) (.l 8), .conv 101 .u64 (.v 100), .idx 101 1000000, .shv 102 false .u8 (.v 99) 101, .bin 103 .and .u8 (.v 102) (.l 1), .bin 104 .shr .u8 (.v 65) (.l 7), .bin 105 .or .u8 (.v 104) (.l 0), .bin 106 .shl .u8 (.v 65) (.l 1), .bin 107 .or .u8 (.v 106) (.v 103), .bin 108 .shr .u8 (.v 66) (.l 7), .bin 109 .or .u8 (.v 108) (.l 0), .bin 110 .shl .u8 (.v 66) (.l 1), .bin 111 .or .u8 (.v 110) (.v 105), .bin 112 .shr .u8 (.v 67) (.l 7), .bin 113 .or .u8 (.v 112) (.l 0), .bin 114 .shl .u8 (.v 67) (.l 1), .bin 115 .or .u8 (.v 114) (.v 109), .bin 116 .shr .u8 (.v 68) (.l 7), .bin 117 .or .u8 (.v 116) (.l 0), .bin 118 .shl .u8 (.v 68) (.l 1), .bin 119 .or .u8 (.v 118) (.v 113), .bin 120 .shr .u8 (.v 69) (.l 7), .bin 121 .or .u8 (.v 120) (.l 0), .bin 122 .shl .u8 (.v 69) (.l 1), .bin 123 .or .u8 (.v 122) (.v 117), .bin 124 .shr .u8 (.v 70) (.l 7), .bin 125 .or .u8 (.v 124) (.l 0), .bin 126 .shl .u8 (.v 70) (.l 1), .bin 127 .or .u8 (.v 126) (.v 121), .bin 128 .shr .u8 (.v 71) (.l 7), .bin 129 .or .u8 (.v 128) (.l 0), .bin 130 .shl .u8 (.v 71) (.l 1), .bin 131 .or .u8 (.v 130) (.v 125), .bin 132 .shr .u8 (.v 72) (.l 7), .bin 133 .or .u8 (.v 132) (.l 0), .bin 134 .shl .u8 (.v 72) (.l 1), .bin 135 .or .u8 (.v 134) (.v 129), .bin 136 .shr .u8 (.v 73) (.l 7), .bin 137 .or .u8 (.v 136) (.l 0), .bin 138 .shl .u8 (.v 73) (.l 1), .bin 139 .or .u8 (.v 138) (.v 133), .bin 140 .shr .u8 (.v 74) (.l 7), .bin 141 .or .u8 (.v 140) (.l 0), .bin 142 .shl .u8 (.v 74) (.l 1), .bin 143 .or .u8 (.v 142) (.v 137), .bin 144 .shr .u8 (.v 75) (.l 7), .bin 145 .or .u8 (.v 144) (.l 0), .bin 146 .shl .u8 (.v 75) (.l 1), .bin 147 .or .u8 (.v 146) (.v 141), .bin 148 .shr .u8 (.v 76) (.l 7), .bin 149 .or .u8 (.v 148) (.l 0), .bin 150 .shl .u8 (.v 76) (.l 1), .bin 151 .or .u8 (.v 150) (.v 145), .bin 152 .shr .u8 (.v 77) (.l 7), .bin 153 .or .u8 (.v 152) (.l 0), .bin 154 .shl .u8 (.v 77) (.l 1), .bin 155 .or .u8 (.v 154) (.v 149), .bin 156 .shr .u8 (.v 78) (.l 7), .bin 157 .or .u8 (.v 156) (.l 0), .bin 158 .shl .u8 (.v 78) (.l 1), .bin 159 .or .u8 (.v 158) (.v 153), .bin 160 .shr .u8 (.v 79) (.l 7), .bin 161 .or .u8 (.v 160) (.l 0), .bin 162 .shl .u8 (.v 79) (.l 1), .bin 163 .or .u8 (.v 162) (.v 157), .bin 164 .shr .u8 (.v 80) (.l 7), .bin 165 .or .u8 (.v 164) (.l 0), .bin 166 .shl .u8 (.v 80) (.l 1), .bin 167 .or .u8 (.v 166) (.v 161), .bin 168 .shr .u8 (.v 81) (.l 7), .bin 169 .or .u8 (.v 168) (.l 0), .bin 170 .shl .u8 (.v 81) (.l 1), .bin 171 .or .u8 (.v 170) (.v 165), .bin 172 .shr .u8 (.v 82) (.l 7), .bin 173 .or .u8 (.v 172) (.l 0), .bin 174 .shl .u8 (.v 82) (.l 1), .bin 175 .or .u8 (.v 174) (.v 169), .bin 176 .shr .u8 (.v 83) (.l 7), .bin 177 .or .u8 (.v 176) (.l 0), .bin 178 .shl .u8 (.v 83) (.l 1), .bin 179 .or .u8 (.v 178) (.v 173), .bin 180 .shr .u8 (.v 84) (.l 7), .bin 181 .or .u8 (.v 180) (.l 0), .bin 182 .shl .u8 (.v 84) (.l 1), .bin 183 .or .u8 (.v 182) (.v 177), .bin 184 .shr .u8 (.v 85) (.l 7), .bin 185 .or .u8 (.v 184) (.l 0), .bin 186 .shl .u8 (.v 85) (.l 1), .bin 187 .or .u8 (.v 186) (.v 181), .bin 188 .shr .u8 (.v 86) (.l 7), .bin 189 .or .u8 (.v 188) (.l 0), .bin 190 .shl .u8 (.v 86) (.l 1), .bin 191 .or .u8 (.v 190) (.v 185), .bin 192 .shr .u8 (.v 87) (.l 7), .bin 193 .or .u8 (.v 192) (.l 0), .bin 194 .shl .u8 (.v 87) (.l 1), .bin 195 .or .u8 (.v 194) (.v 189), .bin 196 .shr .u8 (.v 88) (.l 7), .bin 197 .or .u8 (.v 196) (.l 0), .bin 198 .shl .u8 (.v 88) (.l 1), .bin 199 .or .u8 (.v 198) (.v 193), .bin 200 .shr .u8 (.v 89) (.l 7), .bin 201 .or .u8 (.v 200) (.l 0), .bin 202 .shl .u8 (.v 89) (.l 1), .bin 203 .or .u8 (.v 202) (.v 197), .bin 204 .shr .u8 (.v 90) (.l 7), .bin 205 .or .u8 (.v 204) (.l 0), .bin 206 .shl .u8 (.v 90) (.l 1), .bin 207 .or .u8 (.v 206) (.v 201), .bin 208 .shr .u8 (.v 91) (.l 7), .bin 209 .or .u8 (.v 208) (.l 0), .bin 210 .shl .u8 (.v 91) (.l 1), .bin 211 .or .u8 (.v 210) (.v 205), .bin 212 .shr .u8 (.v 92) (.l 7), .bin 213 .or .u8 (.v 212) (.l 0), .bin 214 .shl .u8 (.v 92) (.l 1), .bin 215 .or .u8 (.v 214) (.v 209), .bin 216 .shr .u8 (.v 93) (.l 7), .bin 217 .or .u8 (.v 216) (.l 0), .bin 218 .shl .u8 (.v 93) (.l 1), .bin 219 .or .u8 (.v 218) (.v 213), .bin 220 .shr .u8 (.v 94) (.l 7), .bin 221 .or .u8 (.v 220) (.l 0), .bin 222 .shl .u8 (.v 94) (.l 1), .bin 223 .or .u8 (.v 222) (.v 217), .bin 224 .shr .u8 (.v 95) (.l 7), .bin 225 .or .u8 (.v 224) (.l 0), .bin 226 .shl .u8 (.v 95) (.l 1), .bin 227 .or .u8 (.v 226) (.v 221), .bin 228 .shr .u8 (.v 96) (.l 7), .bin 229 .or .u8 (.v 228) (.l 0), .bin 230 .shl .u8 (.v 96) (.l 1), .bin 231 .or .u8 (.v 230) (.v 225), .need 50 [[.v 107, .v 111, .v 115, .v 119, .v 123, .v 127, .v 131, .v 135, .v 139, .v 143, .v 147, .v 151, .v 155, .v 159, .v 163, .v 167, .v 171, .v 175, .v 179, .v 183, .v 187, .v 191, .v 195, .v 199, .v 203, .v 207, .v 211, .v 215, .v 219, .v 223, .v 227, .v 231], [.l 237, .l 211, .l 245, .l 92, .l 26, .l 99, .l 18, .l 88, .l 214, .l 156, .l 247, .l 162, .l 222, .l 249, .l 222, .l 20, .l 0, .l 0, .l 0, .l 0, .l 0, .l 0, .l 0, .l 0, .l 0, .l 0, .l 0, .l 0, .l 0, .l 0, .l 0, .l 16]], .call 232 50 [[.v 107, .v 111, .v 115, .v 119, .v 123, .v 127, .v 131, .v 135, .v 139, .v 143, .v 147, .v 151, .v 155, .v 159, .v 163, .v 167, .v 171, .v 175, .v 179, .v 183, .v 187, .v 191, .v 195, .v 199, .v 203, .v 207, .v 211, .v 215, .v 219, .v 223, .v 227, .v 231], [.l 237, .l 211, .l 245, .l 92, .l 26, .l 99, .l 18, .l 88, .l 214, .l 156, .l 247, .l 162, .l 222, .l 249, .l 222, .l 20, .l 0, .l 0, .l 0, .l 0, .l 0, .l 0, .l 0, .l 0, .l 0, .l 0, .l 0, .l 0, .l 0, .l 0, .l 0, .l 16]] 1, .cond 232 true, .need 51 [[.v 107, .v 111, .v 115, .v 119, .v 123, .v 127, .v 131, .v 135, .v 139, .v 143, .v 147, .v 151, .v 155, .v 159, .v 163, .v 167, .v 171, .v 175, .v 179, .v 183, .v 187, .v 191, .v 195, .v 199, .v 203, .v 207, .v 211, .v 215, .v 219, .v 223, .v 227, .v 231], [.l 237, .l 211, .l 245, .l 92, .l 26, .l 99, .l 18, .l 88, .l 214, .l 156, .l 247, .l 162, .l 222, .l 249, .l 222, .l 20, .l 0, .l 0, .l 0, .l 0, .l 0, .l 0, .l 0, .l 0, .l 0, .l 0, .l 0, .l 0, .l 0, .l 0, .l 0, .l 16]], .call 233 51 [[.v 107, .v 111, .v 115, .v 119, .v 123, .v 127, .v 131, .v 135, .v 139, .v 143, .v 147, .v 151, .v 155, .v 159, .v 163, .v 167, .v 171, .v 175, .v 179, .v 183, .v 187, .v 191, .v 195, .v 199, .v 203, .v 207, .v 211, .v 215, .v 219, .v 223, .v 227, .v 231], [.l 237, .l 211, .l 245, .l 92, .l 26, .l 99, .l 18, .l 88, .l 214, .l 156, .l 247, .l 162, .l 222, .l 249, .l 222, .l 20, .l 0, .l 0, .l 0, .l 0, .l 0, .l 0, .l 0, .l 0, .l 0, .l 0, .l 0, .l 0, .l 0, .l 0, .l 0, .l 16]] 32, .bin 265 .sub .i64 (.v 0) (.l 1)] [.v 265, .v 1, .v 2, .v 3, .v 4, .v 5, .v 6, .v 7, .v 8, .v 9, .v 10, .v 11, .v 12, .v 13, .v 14, .v 15, .v 16, .v 17, .v 18, .v 19, .v 20, .v 21, .v 22, .v 23, .v 24, .v 25, .v 26, .v 27, .v 28, .v 29, .v 30, .v 31, .v 32, .v 33, .v 34, .v 35, .v 36, .v 37, .v 38, .v 39, .v 40, .v 41, .v 42, .v 43, .v 44, .v 45, .v 46, .v 47, .v 48, .v 49, .v 50, .v 51, .v 52, .v 53, .v 54, .v 55, .v 56, .v 57, .v 58, .v 59, .v 60, .v 61, .v 62, .v 63, .v 64, .v 233, .v 234, .v 235, .v 236, .v 237, .v 238, .v 239, .v 240, .v 241, .v 242, .v 243, .v 244, .v 245, .v 246, .v 247, .v 248, .v 249, .v 250, .v 251, .v 252, .v 253, .v 254, .v 255, .v 256, .v 257, .v 258, .v 259, .v 260, .v 261, .v 262, .v 263, .v 264] = true := by kernel_rfl
    rw [hb] at hk
    refine ⟨.normal, _, RoundEnd.of (e := none) hk fun ρ hρ hd => ?_, .inl ⟨rfl, Mod64a_after hI hge rfl⟩⟩
    have r0 : ρ 0 = (n : Int) := (hρ 0 (by decide)).trans hn
    simp only [D_nil, D_add, D_sub, D_mul, D_and, D_or, D_xor, D_shl, D_shr, D_andNot, D_quo, D_rem, D_add_i64, D_sub_i64, D_mul_i64, D_add_u32, D_sub_u32, D_mul_u32, D_add_u8, D_sub_u8, D_mul_u8, D_eql, D_neq, D_lss, D_leq, D_gtr, D_geq, D_not, D_conv, D_eqs, D_call, D_cond, D_need, D_idx, D_sel, D_upd, D_shv, D_beq, List.map_cons, List.map_nil, Ref.den, r0] at hd
    obtain ⟨h97, h98, h99, h100, h101, h102, h103, h104, h105, h106, h107, h108, h109, h110, h111, h112, h113, h114, h115, h116, h117, h118, h119, h120, h121, h122, h123, h124, h125, h126, h127, h128, h129, h130, h131, h132, h133, h134, h135, h136, h137, h138, h139, h140, h141, h142, h143, h144, h145, h146, h147, h148, h149, h150, h151, h152, h153, h154, h155, h156, h157, h158, h159, h160, h161, h162, h163, h164, h165, h166, h167, h168, h169, h170, h171, h172, h173, h174, h175, h176, h177, h178, h179, h180, h181, h182, h183, h184, h185, h186, h187, h188, h189, h190, h191, h192, h193, h194, h195, h196, h197, h198, h199, h200, h201, h202, h203, h204, h205, h206, h207, h208, h209, h210, h211, h212, h213, h214, h215, h216, h217, h218, h219, h220, h221, h222, h223, h224, h225, h226, h227, h228, h229, h230, h231, h232, h233, h265, -⟩ := hd
    have e1 : ρ 98 = (n : Int) / 8 := i_quo 8 (by decide) (by omega) (by omega) rfl h98
    have e3 : ρ 100 = (n : Int) % 8 := i_rem 8 (by decide) (by omega) rfl h100
    have e4 : ρ 101 = ρ 100 := by rw [h101, c_u64]; omega
    obtain ⟨hbit, hval⟩ := Mod64a_mid hT hI hn (fun i hi => hρ i hi) e1 h99 e3 e4 h102 h103
    rw [← hX, ← hV] at hval
    have kge := bit_true h97 (decide_eq_true (show (0 : Int) ≤ n by omega))
    have sr : seg ρ 65 32 = dg 256 32 V := (seg_congr fun i hi => hρ _ (by show 65 + i < 97; omega)).trans i4
    have dR : Dig 256 (seg ρ 65 32) := by rw [sr]; exact dg_dig (by decide) _ _
    have vR : dv 256 (seg ρ 65 32) = V := by rw [sr]; exact dv_dg_of (by decide) v0 (by omega)
    have dg_ : ∀ i, i < 32 → 0 ≤ ρ (65 + i) ∧ ρ (65 + i) < 256 := fun i hi => by
      have := dR.d _ (getD_mem (l := seg ρ 65 32) (i := i) (by rw [seg_len]; exact hi)); rwa [seg_get hi] at this
    have p0 := dbl_step (dg_ 0 (by decide)) hbit h104 h105 h106 h107
    have p1 := dbl_step (dg_ 1 (by decide)) p0.1 h108 h109 h110 h111
    have p2 := dbl_step (dg_ 2 (by decide)) p1.1 h112 h113 h114 h115
    have p3 := dbl_step (dg_ 3 (by decide)) p2.1 h116 h117 h118 h119
    have p4 := dbl_step (dg_ 4 (by decide)) p3.1 h120 h121 h122 h123
    have p5 := dbl_step (dg_ 5 (by decide)) p4.1 h124 h125 h126 h127
    have p6 := dbl_step (dg_ 6 (by decide)) p5.1 h128 h129 h130 h131
    have p7 := dbl_step (dg_ 7 (by decide)) p6.1 h132 h133 h134 h135
    have p8 := dbl_step (dg_ 8 (by decide)) p7.1 h136 h137 h138 h139
    have p9 := dbl_step (dg_ 9 (by decide)) p8.1 h140 h141 h142 h143
    have p10 := dbl_step (dg_ 10 (by decide)) p9.1 h144 h145 h146 h147
    have p11 := dbl_step (dg_ 11 (by decide)) p10.1 h148 h149 h150 h151
    have p12 := dbl_step (dg_ 12 (by decide)) p11.1 h152 h153 h154 h155
    have p13 := dbl_step (dg_ 13 (by decide)) p12.1 h156 h157 h158 h159
    have p14 := dbl_step (dg_ 14 (by decide)) p13.1 h160 h161 h162 h163
    have p15 := dbl_step (dg_ 15 (by decide)) p14.1 h164 h165 h166 h167
    have p16 := dbl_step (dg_ 16 (by decide)) p15.1 h168 h169 h170 h171
    have p17 := dbl_step (dg_ 17 (by decide)) p16.1 h172 h173 h174 h175
    have p18 := dbl_step (dg_ 18 (by decide)) p17.1 h176 h177 h178 h179
    have p19 := dbl_step (dg_ 19 (by decide)) p18.1 h180 h181 h182 h183
    have p20 := dbl_step (dg_ 20 (by decide)) p19.1 h184 h185 h186 h187
    have p21 := dbl_step (dg_ 21 (by decide)) p20.1 h188 h189 h190 h191
    have p22 := dbl_step (dg_ 22 (by decide)) p21.1 h192 h193 h194 h195
    have p23 := dbl_step (dg_ 23 (by decide)) p22.1 h196 h197 h198 h199
    have p24 := dbl_step (dg_ 24 (by decide)) p23.1 h200 h201 h202 h203
    have p25 := dbl_step (dg_ 25 (by decide)) p24.1 h204 h205 h206 h207
    have p26 := dbl_step (dg_ 26 (by decide)) p25.1 h208 h209 h210 h211
    have p27 := dbl_step (dg_ 27 (by decide)) p26.1 h212 h213 h214 h215
    have p28 := dbl_step (dg_ 28 (by decide)) p27.1 h216 h217 h218 h219
    have p29 := dbl_step (dg_ 29 (by decide)) p28.1 h220 h221 h222 h223
    have p30 := dbl_step (dg_ 30 (by decide)) p29.1 h224 h225 h226 h227
    have p31 := dbl_step (dg_ 31 (by decide)) p30.1 h228 h229 h230 h231
    have sd : [ρ 107, ρ 111, ρ 115, ρ 119, ρ 123, ρ 127, ρ 131, ρ 135, ρ 139, ρ 143, ρ 147, ρ 151, ρ 155, ρ 159, ρ 163, ρ 167, ρ 171, ρ 175, ρ 179, ρ 183, ρ 187, ρ 191, ρ 195, ρ 199, ρ 203, ρ 207, ρ 211, ρ 215, ρ 219, ρ 223, ρ 227, ρ 231] = dbl (ρ 103) (seg ρ 65 32) :=
      dbl_cons p0.2.1 p0.2.2 (dbl_cons p1.2.1 p1.2.2 (dbl_cons p2.2.1 p2.2.2 (dbl_cons p3.2.1 p3.2.2 (dbl_cons p4.2.1 p4.2.2 (dbl_cons p5.2.1 p5.2.2 (dbl_cons p6.2.1 p6.2.2 (dbl_cons p7.2.1 p7.2.2 (dbl_cons p8.2.1 p8.2.2 (dbl_cons p9.2.1 p9.2.2 (dbl_cons p10.2.1 p10.2.2 (dbl_cons p11.2.1 p11.2.2 (dbl_cons p12.2.1 p12.2.2 (dbl_cons p13.2.1 p13.2.2 (dbl_cons p14.2.1 p14.2.2 (dbl_cons p15.2.1 p15.2.2 (dbl_cons p16.2.1 p16.2.2 (dbl_cons p17.2.1 p17.2.2 (dbl_cons p18.2.1 p18.2.2 (dbl_cons p19.2.1 p19.2.2 (dbl_cons p20.2.1 p20.2.2 (dbl_cons p21.2.1 p21.2.2 (dbl_cons p22.2.1 p22.2.2 (dbl_cons p23.2.1 p23.2.2 (dbl_cons p24.2.1 p24.2.2 (dbl_cons p25.2.1 p25.2.2 (dbl_cons p26.2.1 p26.2.2 (dbl_cons p27.2.1 p27.2.2 (dbl_cons p28.2.1 p28.2.2 (dbl_cons p29.2.1 p29.2.2 (dbl_cons p30.2.1 p30.2.2 (dbl_cons p31.2.1 p31.2.2 (rfl))))))))))))))))))))))))))))))))
    obtain ⟨vD, dD⟩ := dbl_val (c := ρ 103) (l := seg ρ 65 32) (seg_len _ _ _) hbit dR (by rw [vR]; exact v1)
    rw [vR, hval] at vD
    have e50 : ρ 232 = b2i (decide (LL ≤ 2 * V + X / 2 ^ n % 2)) := by
      rw [h232 0 (by decide)]
      show b2i (decide (dv 256 _ ≤ dv 256 [ρ 107, ρ 111, ρ 115, ρ 119, ρ 123, ρ 127, ρ 131, ρ 135, ρ 139, ρ 143, ρ 147, ρ 151, ρ 155, ρ 159, ρ 163, ρ 167, ρ 171, ρ 175, ρ 179, ρ 183, ρ 187, ρ 191, ρ 195, ρ 199, ρ 203, ρ 207, ρ 211, ρ 215, ρ 219, ρ 223, ρ 227, ρ 231])) = _
      rw [sd, vD, order_dv]
    rw [decide_eq_true hcmp] at e50
    have s51 : seg ρ 233 32 = dg 256 32 (X / 2 ^ n % LL) := seg_of (fun i hi => by
      rw [h233 i hi]
      show (dg 256 32 (dv 256 [ρ 107, ρ 111, ρ 115, ρ 119, ρ 123, ρ 127, ρ 131, ρ 135, ρ 139, ρ 143, ρ 147, ρ 151, ρ 155, ρ 159, ρ 163, ρ 167, ρ 171, ρ 175, ρ 179, ρ 183, ρ 187, ρ 191, ρ 195, ρ 199, ρ 203, ρ 207, ρ 211, ρ 215, ρ 219, ρ 223, ρ 227, ρ 231] - dv 256 _)).getD i 0 = _
      rw [sd, vD, order_dv, ← cs, cutZ, if_neg (by omega)]) (dg_len _ _ _)
    refine ⟨?_, fun i hi => ?_⟩
    · simp only [G_nil, G_bin, G_cmp, G_not, G_conv, G_eqs, G_call, G_cond, G_need, G_idx, G_sel, G_upd, G_shv, G_beq, List.map_cons, List.map_nil, Ref.den, r0]
      refine ⟨kge, ⟨?_, ?_⟩, ⟨?_, ?_⟩, trivial, bit_true e50 rfl, trivial, trivial⟩ <;> omega
    · show ([ρ 265] ++ (seg ρ 1 64 ++ seg ρ 233 32)).getD i 0 = _
      rw [s51, show seg ρ 1 64 = seg ρT 1 64 from seg_congr fun i hi => hρ _ (by show 1 + i < 97; omega), show ρ 265 = ρT 0 - 1 by rw [h265, IntKind.wrap_i64]; omega, e0', ← hX]
  · have hk : roundB Try.prog RT 300 5 (loopAt 0 modB) Mod64aT [true,false] none [.cmp 97 .geq (.v 0) (.l 0), .cond 97 true, .bin 98 .quo .i64 (.v 0) (.l 8), .idx 98 64, .sel 99 [.v 1, .v 2, .v 3, .v 4, .v 5, .v 6, .v 7, .v 8, .v 9, .v 10, .v 11, .v 12, .v 13, .v 14, .v 15, .v 16, .v 17, .v 18, .v 19, .v 20, .v 21, .v 22, .v 23, .v 24, .v 25, .v 26, .v 27, .v 28, .v 29, .v 30, .v 31, .v 32, .v 33, .v 34, .v 35, .v 36, .v 37, .v 38, .v 39, .v 40, .v 41, .v 42, .v 43, .v 44, .v 45, .v 46, .v 47, .v 48, .v 49, .v 50, .v 51, .v 52, .v 53, .v 54, .v 55, .v 56, .v 57, .v 58, .v 59, .v 60, .v 61, .v 62, .v 63, .v 64] 98, .bin 100 .rem .i64 (.v 0) (.l 8), .conv 101 .u64 (.v 100), .idx 101 1000000, .shv 102 false .u8 (.v 99) 101, .bin 103 .and .u8 (.v 102) (.l 1), .bin 104 .shr .u8 (.v 65) (.l 7), .bin 105 .or .u8 (.v 104) (.l 0), .bin 106 .shl .u8 (.v 65) (.l 1), .bin 107 .or .u8 (.v 106) (.v 103), .bin 108 .shr .u8 (.v 66) (.l 7), .bin 109 .or .u8 (.v 108) (.l 0), .bin 110 .shl .u8 (.v 66) (.l 1), .bin 111 .or .u8 (.v 110) (.v 105), .bin 112 .shr .u8 (.v 67) (.l 7), .bin 113 .or .u8 (.v 112) (.l 0), .bin 114 .shl .u8 (.v 67) (.l 1), .bin 115 .or .u8 (.v 114) (.v 109), .bin 116 .shr .u8 (.v 68) (.l 7), .bin 117 .or .u8 (.v 116) (.l 0), .bin 118 .shl .u8 (.v 68) (.l 1), .bin 119 .or .u8 (.v 118) (.v 113), .bin 120 .shr .u8 (.v 69) (.l 7), .bin 121 .or .u8 (.v 120) (.l 0), .bin 122 .shl .u8 (.v 69) (.l 1), .bin 123 .or .u8 (.v 122) (.v 117), .bin 124 .shr .u8 (.v 70) (.l 7), .bin 125 .or .u8 (.v 124) (.l 0), .bin 126 .shl .u8 (.v 70) (.l 1), .bin 127 .or .u8 (.v 126) (.v 121), .bin 128 .shr .u8 (.v 71) (.l 7), .bin 129 .or .u8 (.v 128) (.l 0), .bin 130 .shl .u8 (.v 71) (.l 1), .bin 131 .or .u8 (.v 130) (.v 125), .bin 132 .shr .u8 (.v 72) (.l 7), .bin 133 .or .u8 (.v 132) (.l 0), .bin 134 .shl .u8 (.v 72) (.l 1), .bin 135 .or .u8 (.v 134) (.v 129), .bin 136 .shr .u8 (.v 73) (.l 7), .bin 137 .or .u8 (.v 136) (.l 0), .bin 138 .shl .u8 (.v 73) (.l 1), .bin 139 .or .u8 (.v 138) (.v 133), .bin 140 .shr .u8 (.v 74) (.l 7), .bin 141 .or .u8 (.v 140) (.l 0), .bin 142 .shl .u8 (.v 74) (.l 1), .bin 143 .or .u8 (.v 142) (.v 137), .bin 144 .shr .u8 (.v 75) (.l 7), .bin 145 .or .u8 (.v 144) (.l 0), .bin 146 .shl .u8 (.v 75) (.l 1), .bin 147 .or .u8 (.v 146) (.v 141), .bin 148 .shr .u8 (.v 76) (.l 7), .bin 149 .or .u8 (.v 148) (.l 0), .bin 150 .shl .u8 (.v 76) (.l 1), .bin 151 .or .u8 (.v 150) (.v 145), .bin 152 .shr .u8 (.v 77) (.l 7), .bin 153 .or .u8 (.v 152) (.l 0), .bin 154 .shl .u8 (.v 77) (.l 1), .bin 155 .or .u8 (.v 154) (.v 149), .bin 156 .shr .u8 (.v 78) (.l 7), .bin 157 .or .u8 (.v 156) (.l 0), .bin 158 .shl .u8 (.v 78) (.l 1), .bin 159 .or .u8 (.v 158) (.v 153), .bin 160 .shr .u8 (.v 79) (.l 7), .bin 161 .or .u8 (.v 160) (.l 0), .bin 162 .shl .u8 (.v 79) (.l 1), .bin 163 .or .u8 (.v 162) (.v 157), .bin 164 .shr .u8 (.v 80) (.l 7), .bin 165 .or .u8 (.v 164) (.l 0), .bin 166 .shl .u8 (.v 80) (.l 1), .bin 167 .or .u8 (.v 166) (.v 161), .bin 168 .shr .u8 (.v 81) (.l 7), .bin 169 .or .u8 (.v 168) (.l 0), .bin 170 .shl .u8 (.v 81) (.l 1), .bin 171 .or .u8 (.v 170) (.v 165), .bin 172 .shr .u8 (.v 82) (.l 7), .bin 173 .or .u8 (.v 172) (.l 0), .bin 174 .shl .u8 (.v 82) (.l 1), .bin 175 .or .u8 (.v 174) (.v 169), .bin 176 .shr .u8 (.v 83) (.l 7), .bin 177 .or .u8 (.v 176) (.l 0), .bin 178 .shl .u8 (.v 83) (.l 1), .bin 179 .or .u8 (.v 178) (.v 173), .bin 180 .shr .u8 (.v 84) (.l 7), .bin 181 .or .u8 (.v 180) (.l 0), .bin 182 .shl .u8 (.v 84) (.l 1), .bin 183 .or .u8 (.v 182) (.v 177), .bin 184 .shr .u8 (.v 85) (.l 7), .bin 185 .or .u8 (.v 184) (.l 0), .bin 186 .shl .u8 (.v 85) (.l 1), .bin 187 .or .u8 (.v 186) (.v 181), .bin 188 .shr .u8 (.v 86) (.l 7), .bin 189 .or .u8 (.v 188) (.l 0), .bin 190 .shl .u8 (.v 86) (.l 1), .bin 191 .or .u8 (.v 190) (.v 185), .bin 192 .shr .u8 (.v 87) (.l 7), .bin 193 .or .u8 (.v 192) (.l 0), .bin 194 .shl .u8 (.v 87) (.l 1), .bin 195 .or .u8 (.v 194) (.v 189), .bin 196 .shr .u8 (.v 88) (.l 7), .bin 197 .or .u8 (.v 196) (.l 0), .bin 198 .shl .u8 (.v 88) (.l 1), .bin 199 .or .u8 (.v 198) (.v 193), .bin 200 .shr .u8 (.v 89) (.l 7), .bin 201 .or .u8 (.v 200) (.l 0), .bin 202 .shl .u8 (.v 89) (.l 1), .bin 203 .or .u8 (.v 202) (.v 197), .bin 204 .shr .u8 (.v 90) (.l 7), .bin 205 .or .u8 (.v 204) (.l 0), .bin 206 .shl .u8 (.v 90) (.l 1), .bin 207 .or .u8 (.v 206) (.v 201), .bin 208 .shr .u8 (.v 91) (.l 7), .bin 209 .or .u8 (.v 208) (.l 0), .bin 210 .shl .u8 (.v 91) (.l 1), .bin 211 .or .u8 (.v 210) (.v 205), .bin 212 .shr .u8 (.v 92) (.l 7), .bin 213 .or .u8 (.v 212) (.l 0), .bin 214 .shl .u8 (.v 92) (.l 1), .bin 215 .or .u8 (.v 214) (.v 209), .bin 216 .shr .u8 (.v 93) (.l 7), .bin 217 .or .u8 (.v 216) (.l 0), .bin 218 .shl .u8 (.v 93) (.l 1), .bin 219 .or .u8 (.v 218) (.v 213), .bin 220 .shr .u8 (.v 94) (.l 7), .bin 221 .or .u8 (.v 220) (.l 0), .bin 222 .shl .u8 (.v 94) (.l 1), .bin 223 .or .u8 (.v 222) (.v 217), .bin 224 .shr .u8 (.v 95) (.l 7), .bin 225 .or .u8 (.v 224) (.l 0), .bin 226 .shl .u8 (.v 95) (.l 1), .bin 227 .or .u8 (.v 226) (.v 221), .bin 228 .shr .u8 (.v 96) (.l 7), .bin 229 .or .u8 (.v 228) (.l 0), .bin 230 .shl .u8 (.v 96) (.l 1), .bin 231 .or .u8 (.v 230) (.v 225), .need 50 [[.v 107, .v 111, .v 115, .v 119, .v 123, .v 127, .v 131, .v 135, .v 139, .v 143, .v 147, .v 151, .v 155, .v 159, .v 163, .v 167, .v 171, .v 175, .v 179, .v 183, .v 187, .v 191, .v 195, .v 199, .v 203, .v 207, .v 211, .v 215, .v 219, .v 223, .v 227, .v 231], [.l 237, .l 211, .l 245, .l 92, .l 26, .l 99, .l 18, .l 88, .l 214, .l 156, .l 247, .l 162, .l 222, .l 249, .l 222, .l 20, .l 0, .l 0, .l 0, .l 0, .l 0, .l 0, .l 0, .l 0, .l 0, .l 0, .l 0, .l 0, .l 0, .l 0, .l 0, .l 16]], .call 232 50 [[.v 107, .v 111, .v 115, .v 119, .v 123, .v 127, .v 131, .v 135, .v 139, .v 143, .v 147, .v 151, .v 155, .v 159, .v 163, .v 167, .v 171, .v 175, .v 179, .v 183, .v 187, .v 191, .v 195, .v 199, .v 203, .v 207, .v 211, .v 215, .v 219, .v 223, .v 227, .v 231], [.l 237, .l 211, .l 245, .l 92, .l 26, .l 99, .l 18, .l 88, .l 214, .l 156, .l 247, .l 162, .l 222, .l 249, .l 222, .l 20, .l 0, .l 0, .l 0, .l 0, .l 0, .l 0, .l 0, .l 0, .l 0, .l 0, .l 0, .l 0, .l 0, .l 0, .l 0, .l 16]] 1, .cond 232 false, .bin 233 .sub .i64 (.v 0) (.l 1)] [.v 233, .v 1, .v 2, .v 3, .v 4, .v 5, .v 6, .v 7, .v 8, .v 9, .v 10, .v 11, .v 12, .v 13, .v 14, .v 15, .v 16, .v 17, .v 18, .v 19, .v 20, .v 21, .v 22, .v 23, .v 24, .v 25, .v 26, .v 27, .v 28, .v 29, .v 30, .v 31, .v 32, .v 33, .v 34, .v 35, .v 36, .v 37, .v 38, .v 39, .v 40, .v 41, .v 42, .v 43, .v 44, .v 45, .v 46, .v 47, .v 48, .v 49, .v 50, .v 51, .v 52, .v 53, .v 54, .v 55, .v 56, .v 57, .v 58, .v 59, .v 60, .v 61, .v 62, .v 63, .v 64, .v 107, .v 111, .v 115, .v 119, .v 123, .v 127, .v 131, .v 135, .v 139, .v 143, .v 147, .v 151, .v 155, .v 159, .v 163, .v 167, .v 171, .v 175, .v 179, .v 183, .v 187, .v 191, .v 195, .v 199, .v 203, .v 207, .v 211, .v 215, .v 219, .v 223, .v 227, .v 231] = true := by kernel_rfl
    rw [hb] at hk
    refine ⟨.normal, _, RoundEnd.of (e := none) hk fun ρ hρ hd => ?_, .inl ⟨rfl, Mod64a_after hI hge rfl⟩⟩
    have r0 : ρ 0 = (n : Int) := (hρ 0 (by decide)).trans hn
    simp only [D_nil, D_add, D_sub, D_mul, D_and, D_or, D_xor, D_shl, D_shr, D_andNot, D_quo, D_rem, D_add_i64, D_sub_i64, D_mul_i64, D_add_u32, D_sub_u32, D_mul_u32, D_add_u8, D_sub_u8, D_mul_u8, D_eql, D_neq, D_lss, D_leq, D_gtr, D_geq, D_not, D_conv, D_eqs, D_call, D_cond, D_need, D_idx, D_sel, D_upd, D_shv, D_beq, List.map_cons, List.map_nil, Ref.den, r0] at hd
    obtain ⟨h97, h98, h99, h100, h101, h102, h103, h104, h105, h106, h107, h108, h109, h110, h111, h112, h113, h114, h115, h116, h117, h118, h119, h120, h121, h122, h123, h124, h125, h126, h127, h128, h129, h130, h131, h132, h133, h134, h135, h136, h137, h138, h139, h140, h141, h142, h143, h144, h145, h146, h147, h148, h149, h150, h151, h152, h153, h154, h155, h156, h157, h158, h159, h160, h161, h162, h163, h164, h165, h166, h167, h168, h169, h170, h171, h172, h173, h174, h175, h176, h177, h178, h179, h180, h181, h182, h183, h184, h185, h186, h187, h188, h189, h190, h191, h192, h193, h194, h195, h196, h197, h198, h199, h200, h201, h202, h203, h204, h205, h206, h207, h208, h209, h210, h211, h212, h213, h214, h215, h216, h217, h218, h219, h220, h221, h222, h223, h224, h225, h226, h227, h228, h229, h230, h231, h232, h233, -⟩ := hd
    have e1 : ρ 98 = (n : Int) / 8 := i_quo 8 (by decide) (by omega) (by omega) rfl h98
    have e3 : ρ 100 = (n : Int) % 8 := i_rem 8 (by decide) (by omega) rfl h100
    have e4 : ρ 101 = ρ 100 := by rw [h101, c_u64]; omega
    obtain ⟨hbit, hval⟩ := Mod64a_mid hT hI hn (fun i hi => hρ i hi) e1 h99 e3 e4 h102 h103
    rw [← hX, ← hV] at hval
    have kge := bit_true h97 (decide_eq_true (show (0 : Int) ≤ n by omega))
    have sr : seg ρ 65 32 = dg 256 32 V := (seg_congr fun i hi => hρ _ (by show 65 + i < 97; omega)).trans i4
    have dR : Dig 256 (seg ρ 65 32) := by rw [sr]; exact dg_dig (by decide) _ _
    have vR : dv 256 (seg ρ 65 32) = V := by rw [sr]; exact dv_dg_of (by decide) v0 (by omega)
    have dg_ : ∀ i, i < 32 → 0 ≤ ρ (65 + i) ∧ ρ (65 + i) < 256 := fun i hi => by
      have := dR.d _ (getD_mem (l := seg ρ 65 32) (i := i) (by rw [seg_len]; exact hi)); rwa [seg_get hi] at this
    have p0 := dbl_step (dg_ 0 (by decide)) hbit h104 h105 h106 h107
    have p1 := dbl_step (dg_ 1 (by decide)) p0.1 h108 h109 h110 h111
    have p2 := dbl_step (dg_ 2 (by decide)) p1.1 h112 h113 h114 h115
    have p3 := dbl_step (dg_ 3 (by decide)) p2.1 h116 h117 h118 h119
    have p4 := dbl_step (dg_ 4 (by decide)) p3.1 h120 h121 h122 h123
    have p5 := dbl_step (dg_ 5 (by decide)) p4.1 h124 h125 h126 h127
    have p6 := dbl_step (dg_ 6 (by decide)) p5.1 h128 h129 h130 h131
    have p7 := dbl_step (dg_ 7 (by decide)) p6.1 h132 h133 h134 h135
    have p8 := dbl_step (dg_ 8 (by decide)) p7.1 h136 h137 h138 h139
    have p9 := dbl_step (dg_ 9 (by decide)) p8.1 h140 h141 h142 h143
    have p10 := dbl_step (dg_ 10 (by decide)) p9.1 h144 h145 h146 h147
    have p11 := dbl_step (dg_ 11 (by decide)) p10.1 h148 h149 h150 h151
    have p12 := dbl_step (dg_ 12 (by decide)) p11.1 h152 h153 h154 h155
    have p13 := dbl_step (dg_ 13 (by decide)) p12.1 h156 h157 h158 h159
    have p14 := dbl_step (dg_ 14 (by decide)) p13.1 h160 h161 h162 h163
    have p15 := dbl_step (dg_ 15 (by decide)) p14.1 h164 h165 h166 h167
    have p16 := dbl_step (dg_ 16 (by decide)) p15.1 h168 h169 h170 h171
    have p17 := dbl_step (dg_ 17 (by decide)) p16.1 h172 h173 h174 h175
    have p18 := dbl_step (dg_ 18 (by decide)) p17.1 h176 h177 h178 h179
    have p19 := dbl_step (dg_ 19 (by decide)) p18.1 h180 h181 h182 h183
    have p20 := dbl_step (dg_ 20 (by decide)) p19.1 h184 h185 h186 h187
    have p21 := dbl_step (dg_ 21 (by decide)) p20.1 h188 h189 h190 h191
    have p22 := dbl_step (dg_ 22 (by decide)) p21.1 h192 h193 h194 h195
    have p23 := dbl_step (dg_ 23 (by decide)) p22.1 h196 h197 h198 h199
    have p24 := dbl_step (dg_ 24 (by decide)) p23.1 h200 h201 h202 h203
    have p25 := dbl_step (dg_ 25 (by decide)) p24.1 h204 h205 h206 h207
    have p26 := dbl_step (dg_ 26 (by decide)) p25.1 h208 h209 h210 h211
    have p27 := dbl_step (dg_ 27 (by decide)) p26.1 h212 h213 h214 h215
    have p28 := dbl_step (dg_ 28 (by decide)) p27.1 h216 h217 h218 h219
    have p29 := dbl_step (dg_ 29 (by decide)) p28.1 h220 h221 h222 h223
    have p30 := dbl_step (dg_ 30 (by decide)) p29.1 h224 h225 h226 h227
    have p31 := dbl_step (dg_ 31 (by decide)) p30.1 h228 h229 h230 h231
    have sd : [ρ 107, ρ 111, ρ 115, ρ 119, ρ 123, ρ 127, ρ 131, ρ 135, ρ 139, ρ 143, ρ 147, ρ 151, ρ 155, ρ 159, ρ 163, ρ 167, ρ 171, ρ 175, ρ 179, ρ 183, ρ 187, ρ 191, ρ 195, ρ 199, ρ 203, ρ 207, ρ 211, ρ 215, ρ 219, ρ 223, ρ 227, ρ 231] = dbl (ρ 103) (seg ρ 65 32) :=
      dbl_cons p0.2.1 p0.2.2 (dbl_cons p1.2.1 p1.2.2 (dbl_cons p2.2.1 p2.2.2 (dbl_cons p3.2.1 p3.2.2 (dbl_cons p4.2.1 p4.2.2 (dbl_cons p5.2.1 p5.2.2 (dbl_cons p6.2.1 p6.2.2 (dbl_cons p7.2.1 p7.2.2 (dbl_cons p8.2.1 p8.2.2 (dbl_cons p9.2.1 p9.2.2 (dbl_cons p10.2.1 p10.2.2 (dbl_cons p11.2.1 p11.2.2 (dbl_cons p12.2.1 p12.2.2 (dbl_cons p13.2.1 p13.2.2 (dbl_cons p14.2.1 p14.2.2 (dbl_cons p15.2.1 p15.2.2 (dbl_cons p16.2.1 p16.2.2 (dbl_cons p17.2.1 p17.2.2 (dbl_cons p18.2.1 p18.2.2 (dbl_cons p19.2.1 p19.2.2 (dbl_cons p20.2.1 p20.2.2 (dbl_cons p21.2.1 p21.2.2 (dbl_cons p22.2.1 p22.2.2 (dbl_cons p23.2.1 p23.2.2 (dbl_cons p24.2.1 p24.2.2 (dbl_cons p25.2.1 p25.2.2 (dbl_cons p26.2.1 p26.2.2 (dbl_cons p27.2.1 p27.2.2 (dbl_cons p28.2.1 p28.2.2 (dbl_cons p29.2.1 p29.2.2 (dbl_cons p30.2.1 p30.2.2 (dbl_cons p31.2.1 p31.2.2 (rfl))))))))))))))))))))))))))))))))
    obtain ⟨vD, dD⟩ := dbl_val (c := ρ 103) (l := seg ρ 65 32) (seg_len _ _ _) hbit dR (by rw [vR]; exact v1)
    rw [vR, hval] at vD
    have e50 : ρ 232 = b2i (decide (LL ≤ 2 * V + X / 2 ^ n % 2)) := by
      rw [h232 0 (by decide)]
      show b2i (decide (dv 256 _ ≤ dv 256 [ρ 107, ρ 111, ρ 115, ρ 119, ρ 123, ρ 127, ρ 131, ρ 135, ρ 139, ρ 143, ρ 147, ρ 151, ρ 155, ρ 159, ρ 163, ρ 167, ρ 171, ρ 175, ρ 179, ρ 183, ρ 187, ρ 191, ρ 195, ρ 199, ρ 203, ρ 207, ρ 211, ρ 215, ρ 219, ρ 223, ρ 227, ρ 231])) = _
      rw [sd, vD, order_dv]
    rw [decide_eq_false hcmp] at e50
    have s51 : [ρ 107, ρ 111, ρ 115, ρ 119, ρ 123, ρ 127, ρ 131, ρ 135, ρ 139, ρ 143, ρ 147, ρ 151, ρ 155, ρ 159, ρ 163, ρ 167, ρ 171, ρ 175, ρ 179, ρ 183, ρ 187, ρ 191, ρ 195, ρ 199, ρ 203, ρ 207, ρ 211, ρ 215, ρ 219, ρ 223, ρ 227, ρ 231] = dg 256 32 (X / 2 ^ n % LL) := by
      rw [sd, ← cs, cutZ, if_pos (by omega), ← vD]
      have := dg_dv (by decide) dD
      rw [dbl_len, seg_len] at this; exact this.symm
    refine ⟨?_, fun i hi => ?_⟩
    · simp only [G_nil, G_bin, G_cmp, G_not, G_conv, G_eqs, G_call, G_cond, G_need, G_idx, G_sel, G_upd, G_shv, G_beq, List.map_cons, List.map_nil, Ref.den, r0]
      refine ⟨kge, ⟨?_, ?_⟩, ⟨?_, ?_⟩, trivial, bit_false e50 rfl, trivial⟩ <;> omega
    · show ([ρ 233] ++ (seg ρ 1 64 ++ [ρ 107, ρ 111, ρ 115, ρ 119, ρ 123, ρ 127, ρ 131, ρ 135, ρ 139, ρ 143, ρ 147, ρ 151, ρ 155, ρ 159, ρ 163, ρ 167, ρ 171, ρ 175, ρ 179, ρ 183, ρ 187, ρ 191, ρ 195, ρ 199, ρ 203, ρ 207, ρ 211, ρ 215, ρ 219, ρ 223, ρ 227, ρ 231])).getD i 0 = _
      rw [s51, show seg ρ 1 64 = seg ρT 1 64 from seg_congr fun i hi => hρ _ (by show 1 + i < 97; omega), show ρ 233 = ρT 0 - 1 by rw [h233, IntKind.wrap_i64]; omega, e0', ← hX]
theorem Mod64a_end {cl : Code} (hb : loopAt 0 modB = some cl) {ρ0 ρT : Nat → Int} (hI : Mod64aI ρ0 ρT) (hlt : ¬ 0 ≤ ρT 0) :
    ∃ e x', RoundEnd Try.prog sfns (callN Try.prog RT 300 5) 300 cl Mod64aT.slT Mod64aT.memT Mod64aT.m ρT e x' ∧ ((e = .normal ∧ Mod64aI ρ0 x' ∧ (x' 0 + 1).toNat < (ρT 0 + 1).toNat) ∨ (e = .exit Mod64aT.xid ∧ ∀ i, i < Mod64aT.m → x' i = (sfns.g Mod64aT.j [xs Mod64aT.m ρ0]).getD i 0)) := by
  obtain ⟨i1, i2, i3, i4⟩ := hI
  have hk : roundB Try.prog RT 300 5 (loopAt 0 modB) Mod64aT [false] (some 0) [.cmp 97 .geq (.v 0) (.l 0), .cond 97 false] [.v 0, .v 1, .v 2, .v 3, .v 4, .v 5, .v 6, .v 7, .v 8, .v 9, .v 10, .v 11, .v 12, .v 13, .v 14, .v 15, .v 16, .v 17, .v 18, .v 19, .v 20, .v 21, .v 22, .v 23, .v 24, .v 25, .v 26, .v 27, .v 28, .v 29, .v 30, .v 31, .v 32, .v 33, .v 34, .v 35, .v 36, .v 37, .v 38, .v 39, .v 40, .v 41, .v 42, .v 43, .v 44, .v 45, .v 46, .v 47, .v 48, .v 49, .v 50, .v 51, .v 52, .v 53, .v 54, .v 55, .v 56, .v 57, .v 58, .v 59, .v 60, .v 61, .v 62, .v 63, .v 64, .v 65, .v 66, .v 67, .v 68, .v 69, .v 70, .v 71, .v 72, .v 73, .v 74, .v 75, .v 76, .v 77, .v 78, .v 79, .v 80, .v 81, .v 82, .v 83, .v 84, .v 85, .v 86, .v 87, .v 88, .v 89, .v 90, .v 91, .v 92, .v 93, .v 94, .v 95, .v 96] = true := by kernel_rfl
  rw [hb] at hk
  refine ⟨.exit 0, ρT, RoundEnd.of (e := some 0) hk fun ρ hρ hd => ?_, .inr ⟨rfl, fun i hi => ?_⟩⟩
  · have r0 : ρ 0 = ρT 0 := hρ 0 (by decide)
    simp only [D_nil, D_add, D_sub, D_mul, D_and, D_or, D_xor, D_shl, D_shr, D_andNot, D_quo, D_rem, D_add_i64, D_sub_i64, D_mul_i64, D_add_u32, D_sub_u32, D_mul_u32, D_add_u8, D_sub_u8, D_mul_u8, D_eql, D_neq, D_lss, D_leq, D_gtr, D_geq, D_not, D_conv, D_eqs, D_call, D_cond, D_need, D_idx, D_sel, D_upd, D_shv, D_beq, List.map_cons, List.map_nil, Ref.den, r0] at hd
    obtain ⟨hc, -⟩ := hd
    have kc := bit_false hc (decide_eq_false hlt)
    refine ⟨by simp only [G_nil, G_bin, G_cmp, G_not, G_conv, G_eqs, G_call, G_cond, G_need, G_idx, G_sel, G_upd, G_shv, G_beq, List.map_cons, List.map_nil, Ref.den]; exact ⟨kc, trivial⟩, fun i hi => ?_⟩
    show ([ρ 0] ++ (seg ρ 1 64 ++ seg ρ 65 32)).getD i 0 = _
    rw [← Mod64a_get ρ hi, hρ i hi]
  · have hi : i < 97 := hi
    have e1 : ρT 0 = -1 := by omega
    have hA : ((xs 97 ρ0).drop 1).take 64 = seg ρ0 1 64 := xs_drop (by omega)
    show ρT i = ([-1] ++ (((xs 97 ρ0).drop 1).take 64 ++ dg 256 32 (dv 256 (((xs 97 ρ0).drop 1).take 64) % LL))).getD i 0
    rw [hA, Mod64a_get ρT hi, e1, i1]
    rw [e1, show (-1 + 1 : Int).toNat = 0 from rfl, Int.pow_zero, Int.ediv_one] at i4
    rw [i4]
theorem okMod64a : CtrOK Try.prog sfns cMod64a := by
  refine CtrOK.ofP (t := Mod64aT) (k := 0) (fn := Try.f28) (body := modB) okRT mixed (lf := 300) (d := 5) (by kernel_rfl) (by kernel_rfl) ?_ rfl fun w vs xs ha _ => ?_
  · intro cl hcl
    refine LoopOK.toW (callN_ok okRT mixed 300 5) mixed (lf := 300) ⟨Mod64aI, fun ρ => (ρ 0 + 1).toNat, fun ρ0 hT hp => ?_, fun ρ0 ρT hT hI => ?_⟩
    · obtain ⟨p1, p2⟩ : ρ0 0 = 511 ∧ seg ρ0 65 32 = List.replicate 32 0 := hp
      refine ⟨rfl, by omega, by omega, ?_⟩
      have hb := dv_bound (by decide) (Mod64a_dig hT)
      rw [seg_len] at hb
      have e : dv 256 (seg ρ0 1 64) / 2 ^ (511 + 1 : Int).toNat = 0 := Int.ediv_eq_zero_of_lt hb.1 (by
        refine Int.lt_of_lt_of_le hb.2 ?_
        show (256 : Int) ^ 64 ≤ 2 ^ 512
        decide +kernel)
      rw [p2, p1, e]; decide
    · by_cases h : 0 ≤ ρT 0
      · exact Mod64a_go hcl hT hI h
      · exact Mod64a_end hcl hI h
  · obtain ⟨v, a, rfl, rfl, ⟨la, -, ia⟩⟩ := open1 ha
    refine WayP.of (dec := []) (fs := [.need 33 [[.l 511, .v 0, .v 1, .v 2, .v 3, .v 4, .v 5, .v 6, .v 7, .v 8, .v 9, .v 10, .v 11, .v 12, .v 13, .v 14, .v 15, .v 16, .v 17, .v 18, .v 19, .v 20, .v 21, .v 22, .v 23, .v 24, .v 25, .v 26, .v 27, .v 28, .v 29, .v 30, .v 31, .v 32, .v 33, .v 34, .v 35, .v 36, .v 37, .v 38, .v 39, .v 40, .v 41, .v 42, .v 43, .v 44, .v 45, .v 46, .v 47, .v 48, .v 49, .v 50, .v 51, .v 52, .v 53, .v 54, .v 55, .v 56, .v 57, .v 58, .v 59, .v 60, .v 61, .v 62, .v 63, .l 0, .l 0, .l 0, .l 0, .l 0, .l 0, .l 0, .l 0, .l 0, .l 0, .l 0, .l 0, .l 0, .l 0, .l 0, .l 0, .l 0, .l 0, .l 0, .l 0, .l 0, .l 0, .l 0, .l 0, .l 0, .l 0, .l 0, .l 0, .l 0, .l 0, .l 0, .l 0]], .call 64 33 [[.l 511, .v 0, .v 1, .v 2, .v 3, .v 4, .v 5, .v 6, .v 7, .v 8, .v 9, .v 10, .v 11, .v 12, .v 13, .v 14, .v 15, .v 16, .v 17, .v 18, .v 19, .v 20, .v 21, .v 22, .v 23, .v 24, .v 25, .v 26, .v 27, .v 28, .v 29, .v 30, .v 31, .v 32, .v 33, .v 34, .v 35, .v 36, .v 37, .v 38, .v 39, .v 40, .v 41, .v 42, .v 43, .v 44, .v 45, .v 46, .v 47, .v 48, .v 49, .v 50, .v 51, .v 52, .v 53, .v 54, .v 55, .v 56, .v 57, .v 58, .v 59, .v 60, .v 61, .v 62, .v 63, .l 0, .l 0, .l 0, .l 0, .l 0, .l 0, .l 0, .l 0, .l 0, .l 0, .l 0, .l 0, .l 0, .l 0, .l 0, .l 0, .l 0, .l 0, .l 0, .l 0, .l 0, .l 0, .l 0, .l 0, .l 0, .l 0, .l 0, .l 0, .l 0, .l 0, .l 0, .l 0]] 97]) (refs := [.v 129, .v 130, .v 131, .v 132, .v 133, .v 134, .v 135, .v 136, .v 137, .v 138, .v 139, .v 140, .v 141, .v 142, .v 143, .v 144, .v 145, .v 146, .v 147, .v 148, .v 149, .v 150, .v 151, .v 152, .v 153, .v 154, .v 155, .v 156, .v 157, .v 158, .v 159, .v 160]) (ps := [(.v 0, .v 65), (.v 1, .v 66), (.v 2, .v 67), (.v 3, .v 68), (.v 4, .v 69), (.v 5, .v 70), (.v 6, .v 71), (.v 7, .v 72), (.v 8, .v 73), (.v 9, .v 74), (.v 10, .v 75), (.v 11, .v 76), (.v 12, .v 77), (.v 13, .v 78), (.v 14, .v 79), (.v 15, .v 80), (.v 16, .v 81), (.v 17, .v 82), (.v 18, .v 83), (.v 19, .v 84), (.v 20, .v 85), (.v 21, .v 86), (.v 22, .v 87), (.v 23, .v 88), (.v 24, .v 89), (.v 25, .v 90), (.v 26, .v 91), (.v 27, .v 92), (.v 28, .v 93), (.v 29, .v 94), (.v 30, .v 95), (.v 31, .v 96), (.v 32, .v 97), (.v 33, .v 98), (.v 34, .v 99), (.v 35, .v 100), (.v 36, .v 101), (.v 37, .v 102), (.v 38, .v 103), (.v 39, .v 104), (.v 40, .v 105), (.v 41, .v 106), (.v 42, .v 107), (.v 43, .v 108), (.v 44, .v 109), (.v 45, .v 110), (.v 46, .v 111), (.v 47, .v 112), (.v 48, .v 113), (.v 49, .v 114), (.v 50, .v 115), (.v 51, .v 116), (.v 52, .v 117), (.v 53, .v 118), (.v 54, .v 119), (.v 55, .v 120), (.v 56, .v 121), (.v 57, .v 122), (.v 58, .v 123), (.v 59, .v 124), (.v 60, .v 125), (.v 61, .v 126), (.v 62, .v 127), (.v 63, .v 128)]) (by kernel_rfl) fun ρ hρ hd => ?_
    have ea : seg ρ 0 64 = a := seg_of (fun i hi => by
      rw [Nat.zero_add, hρ i hi]
      simp only [flat, List.flatten_cons, List.flatten_nil, List.append_nil]) la
    simp only [D_nil, D_add, D_sub, D_mul, D_and, D_or, D_xor, D_shl, D_shr, D_andNot, D_quo, D_rem, D_add_i64, D_sub_i64, D_mul_i64, D_add_u32, D_sub_u32, D_mul_u32, D_add_u8, D_sub_u8, D_mul_u8, D_eql, D_neq, D_lss, D_leq, D_gtr, D_geq, D_not, D_conv, D_eqs, D_call, D_cond, D_need, D_idx, D_sel, D_upd, D_shv, D_beq, List.map_cons, List.map_nil, Ref.den] at hd
    obtain ⟨hcall, -⟩ := hd
    refine ⟨?_, ?_, fun p hp => ?_⟩
    · simp only [G_nil, G_bin, G_cmp, G_not, G_conv, G_eqs, G_call, G_cond, G_need, G_idx, G_sel, G_upd, G_shv, G_beq, List.map_cons, List.map_nil, Ref.den]; exact ⟨⟨rfl, rfl⟩, trivial⟩
    · show seg ρ 129 32 = dg 256 32 (dv 256 a % LL)
      refine seg_of (fun i hi => ?_) (dg_len _ _ _)
      rw [show 129 + i = 64 + (65 + i) by omega, hcall (65 + i) (by show 65 + i < 97; omega)]
      show ([_] ++ (seg ρ 0 64 ++ dg 256 32 (dv 256 (seg ρ 0 64) % LL))).getD (65 + i) 0 = _
      rw [ea]
      simp only [List.getD_eq_getElem?_getD]
      rw [List.getElem?_append_right (by simp; omega), List.getElem?_append_right (by simp [la])]
      simp [la, show 65 + i - 1 - 64 = i by omega]
    · obtain ⟨i, hi, rfl⟩ := List.mem_map.1 (show p ∈ (List.range 64).map fun i => (Ref.v i, Ref.v (65 + i)) from hp)
      have hi := List.mem_range.1 hi
      show ρ i = ρ (65 + i)
      rw [show 65 + i = 64 + (1 + i) by omega, hcall (1 + i) (by show 1 + i < 97; omega)]
      show _ = ([_] ++ (seg ρ 0 64 ++ dg 256 32 (dv 256 (seg ρ 0 64) % LL))).getD (1 + i) 0
      simp only [List.getD_eq_getElem?_getD]
      rw [List.getElem?_append_right (by simp), List.getElem?_append_left (by rw [seg_len]; simp; omega)]
      have e := seg_get (ρ := ρ) (o := 0) hi
      rw [Nat.zero_add, List.getD_eq_getElem?_getD] at e
      rw [show 1 + i - [-1].length = i by simp]
      exact e.symm
#print axioms okMod64a
end Go.Proofs.Ytokndemdmkaofaa
