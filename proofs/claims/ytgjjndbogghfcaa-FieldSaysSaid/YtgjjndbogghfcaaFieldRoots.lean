/- The statement FieldRoots: the law's walk, by the reckoning. No condition. -/
import Derived.Test.YtgjjndbogghfcaaFk11
import Derived.Test.YtgjjndbogghfcaaSxV
namespace Go.Bx
theorem dv_small {x : Int} (h : 0 ≤ x ∧ x < PP) : dv 256 (dg 256 32 x) = x := by have hL := PP_lt; exact dv_dg_of (by decide) h.1 (by omega)
theorem dgn32 {x y : Int} (h : dg 256 32 x = dg 256 32 y) (hx : 0 ≤ x ∧ x < PP) (hy : 0 ≤ y ∧ y < PP) : x = y := by
  have := congrArg (dv 256) h; rwa [dv_small hx, dv_small hy] at this
theorem dg0 (x : Int) : (dg 256 32 x).getD 0 0 = x % 256 := rfl
theorem sq_pos {A : Int} : 0 ≤ A % PP ∧ A % PP < PP := rmod A
theorem root_two {A r : Int} (br : 0 ≤ r ∧ r < PP) (h : (r * r) % PP = (A * A) % PP) : r = A % PP ∨ r = (0 - A) % PP := by
  rcases two_roots (P := PP) (p := PP.toNat) (by decide) p25519 h with h | h
  · exact .inl (by rw [← h, Int.emod_eq_of_lt br.1 br.2])
  · exact .inr (by rw [Int.zero_sub, ← h, Int.emod_eq_of_lt br.1 br.2])
end Go.Bx
namespace Go.Proofs.Ytgjjndbogghfcaa
open Go.RowKit Go.Bx Go.Sx
set_option linter.unusedSimpArgs false
theorem list_seg (ρ : Nat → Int) (n : Nat) : [ρ n, ρ (n + 1), ρ (n + 2), ρ (n + 3), ρ (n + 4), ρ (n + 5), ρ (n + 6), ρ (n + 7), ρ (n + 8), ρ (n + 9), ρ (n + 10), ρ (n + 11), ρ (n + 12), ρ (n + 13), ρ (n + 14), ρ (n + 15), ρ (n + 16), ρ (n + 17), ρ (n + 18), ρ (n + 19), ρ (n + 20), ρ (n + 21), ρ (n + 22), ρ (n + 23), ρ (n + 24), ρ (n + 25), ρ (n + 26), ρ (n + 27), ρ (n + 28), ρ (n + 29), ρ (n + 30), ρ (n + 31)] = seg ρ n 32 := rfl
theorem sg39 (a : List Int) : sfns.g 39 [a] = (if timesZ (rootT (dv 256 a)) (rootT (dv 256 a)) % PP = dv 256 a % PP then dg 256 32 (eroot (dv 256 a)) ++ [1] else dg 256 32 0 ++ [0]) := by simp only [sfns, sg, eroot]
theorem seg_bit {ρ : Nat → Int} {n : Nat} {l : List Int} {b : Int} (hl : l.length = 32) (h : ∀ i, i < 33 → ρ (n + i) = (l ++ [b]).getD i 0) : seg ρ n 32 = l ∧ ρ (n + 32) = b := by
  refine ⟨seg_of (fun i hi => ?_) hl, ?_⟩
  · rw [h i (by omega)]
    simp only [List.getD_eq_getElem?_getD]
    rw [List.getElem?_append_left (by omega)]
  · rw [h 32 (by omega)]
    simp only [List.getD_eq_getElem?_getD]
    rw [List.getElem?_append_right (by omega), hl]; rfl
theorem root_seg {ρ : Nat → Int} {n : Nat} {l : List Int} (h : ∀ i, i < 33 → ρ (n + i) = (sfns.g 39 [l]).getD i 0) :
    ((rootT (dv 256 l) * rootT (dv 256 l)) % PP = dv 256 l % PP → seg ρ n 32 = dg 256 32 (eroot (dv 256 l)) ∧ ρ (n + 32) = 1) ∧ (¬ (rootT (dv 256 l) * rootT (dv 256 l)) % PP = dv 256 l % PP → seg ρ n 32 = dg 256 32 0 ∧ ρ (n + 32) = 0) := by
  rw [sg39, timesZ_mod] at h
  generalize dv 256 l = A at *
  generalize rootT A = R at *
  refine ⟨fun c => ?_, fun c => ?_⟩
  · rw [if_pos c] at h; exact seg_bit (dg_len _ _ _) h
  · rw [if_neg c] at h; exact seg_bit (dg_len _ _ _) h
theorem bit_one {x : Int} (h : x = 1) : decide (x ≠ 0) = true := by rw [h]; rfl
theorem bit_zero {x : Int} (h : x = 0) : decide (x ≠ 0) = false := by rw [h]; rfl
theorem low_bit {l : List Int} {r x y : Int} (ev : r % 2 = 0) (hx : x = l.getD 0 0) (hl : l = dg 256 32 r) (h1 : binZ .and .u8 x 1 = some y) : y = 0 := by
  rw [hl, dg0] at hx
  have e : y = x % 2 ^ 1 := k_and 1 (by decide) rfl h1
  rw [e, hx]
  simp only [Int.reducePow]; omega
theorem even_first {l : List Int} {r x y z : Int} {dz : Decidable (y ≠ 0)} (_ : dv 256 l = r) (ev : r % 2 = 0) (hx : x = l.getD 0 0) (hl : l = dg 256 32 r) (h1 : binZ .and .u8 x 1 = some y) (h2 : z = b2i (@decide (y ≠ 0) dz)) : decide (z ≠ 0) = false := by
  have h0 := low_bit ev hx hl h1
  have e : z = 0 := by rw [h2, decide_eq_false (fun h => h h0)]; rfl
  rw [e]; rfl
theorem even_first' {l : List Int} {r x y z : Int} {dz : Decidable (y = 0)} (_ : dv 256 l = r) (ev : r % 2 = 0) (hx : x = l.getD 0 0) (hl : l = dg 256 32 r) (h1 : binZ .and .u8 x 1 = some y) (h2 : z = b2i (@decide (y = 0) dz)) : decide (z ≠ 0) = true := by
  have h0 := low_bit ev hx hl h1
  have e : z = 1 := by rw [h2, decide_eq_true h0]; rfl
  rw [e]; rfl
def cFRoots : Ctr := ⟨8, 46, [.arr .u8 32], [.bool]⟩
def T10 : List Ctr := cERoot :: T7
theorem okT10 : ∀ c ∈ T10, CtrOK Try.prog sfns c := by
  intro c hc
  rcases List.mem_cons.1 hc with rfl | hc
  · exact okERoot
  · exact okT7 c hc
theorem okFRoots : CtrOK Try.prog sfns cFRoots := by
  refine CtrOK.of okT10 mixed (lf := 300) (d := 5) rfl fun w vs xs ha _ => ?_
  obtain ⟨v, a, rfl, rfl, ⟨la, -, ia⟩⟩ := open1 ha
  have bA := bd32 la ia
  obtain ⟨A, hA⟩ : ∃ A, A = dv 256 a := ⟨_, rfl⟩
  rw [← hA] at bA
  have hS : (rootT (A * A % PP) * rootT (A * A % PP)) % PP = (A * A % PP) % PP := root_ok bA.1 (Int.emod_emod _ _)
  obtain ⟨r, hr⟩ : ∃ r, r = eroot (A * A % PP) := ⟨_, rfl⟩
  have br : 0 ≤ r ∧ r < PP := by rw [hr]; exact eroot_bd _
  have heven : r % 2 = 0 := by rw [hr]; exact eroot_even _
  have hrr : (r * r) % PP = A * A % PP := by rw [hr, eroot_sq, hS, Int.emod_emod]
  have hr2 : ¬ r = A % PP → r = (0 - A) % PP := fun h => (root_two br hrr).resolve_left h
  obtain ⟨t, ht⟩ : ∃ t, t = eroot A := ⟨_, rfl⟩
  have bt : 0 ≤ t ∧ t < PP := by rw [ht]; exact eroot_bd _
  have htev : t % 2 = 0 := by rw [ht]; exact eroot_even _
  have htt : (rootT A * rootT A) % PP = A % PP → (t * t) % PP = A % PP := fun h => by rw [ht, eroot_sq, h]
  by_cases hn : r = A % PP
  · by_cases hc : (rootT A * rootT A) % PP = A % PP
    · refine Go.Sx.Way.of (dec := [false,false,false,false,false,true,true,true]) (fs := [.need 40 [], .call 32 40 [] 1, .not 33 (.v 32), .cond 33 false, .need 35 [[.v 0, .v 1, .v 2, .v 3, .v 4, .v 5, .v 6, .v 7, .v 8, .v 9, .v 10, .v 11, .v 12, .v 13, .v 14, .v 15, .v 16, .v 17, .v 18, .v 19, .v 20, .v 21, .v 22, .v 23, .v 24, .v 25, .v 26, .v 27, .v 28, .v 29, .v 30, .v 31], [.v 0, .v 1, .v 2, .v 3, .v 4, .v 5, .v 6, .v 7, .v 8, .v 9, .v 10, .v 11, .v 12, .v 13, .v 14, .v 15, .v 16, .v 17, .v 18, .v 19, .v 20, .v 21, .v 22, .v 23, .v 24, .v 25, .v 26, .v 27, .v 28, .v 29, .v 30, .v 31]], .call 34 35 [[.v 0, .v 1, .v 2, .v 3, .v 4, .v 5, .v 6, .v 7, .v 8, .v 9, .v 10, .v 11, .v 12, .v 13, .v 14, .v 15, .v 16, .v 17, .v 18, .v 19, .v 20, .v 21, .v 22, .v 23, .v 24, .v 25, .v 26, .v 27, .v 28, .v 29, .v 30, .v 31], [.v 0, .v 1, .v 2, .v 3, .v 4, .v 5, .v 6, .v 7, .v 8, .v 9, .v 10, .v 11, .v 12, .v 13, .v 14, .v 15, .v 16, .v 17, .v 18, .v 19, .v 20, .v 21, .v 22, .v 23, .v 24, .v 25, .v 26, .v 27, .v 28, .v 29, .v 30, .v 31]] 32, .need 39 [[.v 34, .v 35, .v 36, .v 37, .v 38, .v 39, .v 40, .v 41, .v 42, .v 43, .v 44, .v 45, .v 46, .v 47, .v 48, .v 49, .v 50, .v 51, .v 52, .v 53, .v 54, .v 55, .v 56, .v 57, .v 58, .v 59, .v 60, .v 61, .v 62, .v 63, .v 64, .v 65]], .call 66 39 [[.v 34, .v 35, .v 36, .v 37, .v 38, .v 39, .v 40, .v 41, .v 42, .v 43, .v 44, .v 45, .v 46, .v 47, .v 48, .v 49, .v 50, .v 51, .v 52, .v 53, .v 54, .v 55, .v 56, .v 57, .v 58, .v 59, .v 60, .v 61, .v 62, .v 63, .v 64, .v 65]] 33, .not 99 (.v 98), .cond 99 false, .need 35 [[.v 66, .v 67, .v 68, .v 69, .v 70, .v 71, .v 72, .v 73, .v 74, .v 75, .v 76, .v 77, .v 78, .v 79, .v 80, .v 81, .v 82, .v 83, .v 84, .v 85, .v 86, .v 87, .v 88, .v 89, .v 90, .v 91, .v 92, .v 93, .v 94, .v 95, .v 96, .v 97], [.v 66, .v 67, .v 68, .v 69, .v 70, .v 71, .v 72, .v 73, .v 74, .v 75, .v 76, .v 77, .v 78, .v 79, .v 80, .v 81, .v 82, .v 83, .v 84, .v 85, .v 86, .v 87, .v 88, .v 89, .v 90, .v 91, .v 92, .v 93, .v 94, .v 95, .v 96, .v 97]], .call 100 35 [[.v 66, .v 67, .v 68, .v 69, .v 70, .v 71, .v 72, .v 73, .v 74, .v 75, .v 76, .v 77, .v 78, .v 79, .v 80, .v 81, .v 82, .v 83, .v 84, .v 85, .v 86, .v 87, .v 88, .v 89, .v 90, .v 91, .v 92, .v 93, .v 94, .v 95, .v 96, .v 97], [.v 66, .v 67, .v 68, .v 69, .v 70, .v 71, .v 72, .v 73, .v 74, .v 75, .v 76, .v 77, .v 78, .v 79, .v 80, .v 81, .v 82, .v 83, .v 84, .v 85, .v 86, .v 87, .v 88, .v 89, .v 90, .v 91, .v 92, .v 93, .v 94, .v 95, .v 96, .v 97]] 32, .eqs 132 [(.v 100, .v 34), (.v 101, .v 35), (.v 102, .v 36), (.v 103, .v 37), (.v 104, .v 38), (.v 105, .v 39), (.v 106, .v 40), (.v 107, .v 41), (.v 108, .v 42), (.v 109, .v 43), (.v 110, .v 44), (.v 111, .v 45), (.v 112, .v 46), (.v 113, .v 47), (.v 114, .v 48), (.v 115, .v 49), (.v 116, .v 50), (.v 117, .v 51), (.v 118, .v 52), (.v 119, .v 53), (.v 120, .v 54), (.v 121, .v 55), (.v 122, .v 56), (.v 123, .v 57), (.v 124, .v 58), (.v 125, .v 59), (.v 126, .v 60), (.v 127, .v 61), (.v 128, .v 62), (.v 129, .v 63), (.v 130, .v 64), (.v 131, .v 65)], .not 133 (.v 132), .cond 133 false, .bin 134 .and .u8 (.v 66) (.l 1), .cmp 135 .neq (.v 134) (.l 0), .cond 135 false, .need 31 [[.v 0, .v 1, .v 2, .v 3, .v 4, .v 5, .v 6, .v 7, .v 8, .v 9, .v 10, .v 11, .v 12, .v 13, .v 14, .v 15, .v 16, .v 17, .v 18, .v 19, .v 20, .v 21, .v 22, .v 23, .v 24, .v 25, .v 26, .v 27, .v 28, .v 29, .v 30, .v 31]], .call 136 31 [[.v 0, .v 1, .v 2, .v 3, .v 4, .v 5, .v 6, .v 7, .v 8, .v 9, .v 10, .v 11, .v 12, .v 13, .v 14, .v 15, .v 16, .v 17, .v 18, .v 19, .v 20, .v 21, .v 22, .v 23, .v 24, .v 25, .v 26, .v 27, .v 28, .v 29, .v 30, .v 31]] 32, .eqs 168 [(.v 66, .v 136), (.v 67, .v 137), (.v 68, .v 138), (.v 69, .v 139), (.v 70, .v 140), (.v 71, .v 141), (.v 72, .v 142), (.v 73, .v 143), (.v 74, .v 144), (.v 75, .v 145), (.v 76, .v 146), (.v 77, .v 147), (.v 78, .v 148), (.v 79, .v 149), (.v 80, .v 150), (.v 81, .v 151), (.v 82, .v 152), (.v 83, .v 153), (.v 84, .v 154), (.v 85, .v 155), (.v 86, .v 156), (.v 87, .v 157), (.v 88, .v 158), (.v 89, .v 159), (.v 90, .v 160), (.v 91, .v 161), (.v 92, .v 162), (.v 93, .v 163), (.v 94, .v 164), (.v 95, .v 165), (.v 96, .v 166), (.v 97, .v 167)], .not 169 (.v 168), .cond 169 false, .need 39 [[.v 0, .v 1, .v 2, .v 3, .v 4, .v 5, .v 6, .v 7, .v 8, .v 9, .v 10, .v 11, .v 12, .v 13, .v 14, .v 15, .v 16, .v 17, .v 18, .v 19, .v 20, .v 21, .v 22, .v 23, .v 24, .v 25, .v 26, .v 27, .v 28, .v 29, .v 30, .v 31]], .call 170 39 [[.v 0, .v 1, .v 2, .v 3, .v 4, .v 5, .v 6, .v 7, .v 8, .v 9, .v 10, .v 11, .v 12, .v 13, .v 14, .v 15, .v 16, .v 17, .v 18, .v 19, .v 20, .v 21, .v 22, .v 23, .v 24, .v 25, .v 26, .v 27, .v 28, .v 29, .v 30, .v 31]] 33, .cond 202 true, .need 35 [[.v 170, .v 171, .v 172, .v 173, .v 174, .v 175, .v 176, .v 177, .v 178, .v 179, .v 180, .v 181, .v 182, .v 183, .v 184, .v 185, .v 186, .v 187, .v 188, .v 189, .v 190, .v 191, .v 192, .v 193, .v 194, .v 195, .v 196, .v 197, .v 198, .v 199, .v 200, .v 201], [.v 170, .v 171, .v 172, .v 173, .v 174, .v 175, .v 176, .v 177, .v 178, .v 179, .v 180, .v 181, .v 182, .v 183, .v 184, .v 185, .v 186, .v 187, .v 188, .v 189, .v 190, .v 191, .v 192, .v 193, .v 194, .v 195, .v 196, .v 197, .v 198, .v 199, .v 200, .v 201]], .call 203 35 [[.v 170, .v 171, .v 172, .v 173, .v 174, .v 175, .v 176, .v 177, .v 178, .v 179, .v 180, .v 181, .v 182, .v 183, .v 184, .v 185, .v 186, .v 187, .v 188, .v 189, .v 190, .v 191, .v 192, .v 193, .v 194, .v 195, .v 196, .v 197, .v 198, .v 199, .v 200, .v 201], [.v 170, .v 171, .v 172, .v 173, .v 174, .v 175, .v 176, .v 177, .v 178, .v 179, .v 180, .v 181, .v 182, .v 183, .v 184, .v 185, .v 186, .v 187, .v 188, .v 189, .v 190, .v 191, .v 192, .v 193, .v 194, .v 195, .v 196, .v 197, .v 198, .v 199, .v 200, .v 201]] 32, .need 31 [[.v 0, .v 1, .v 2, .v 3, .v 4, .v 5, .v 6, .v 7, .v 8, .v 9, .v 10, .v 11, .v 12, .v 13, .v 14, .v 15, .v 16, .v 17, .v 18, .v 19, .v 20, .v 21, .v 22, .v 23, .v 24, .v 25, .v 26, .v 27, .v 28, .v 29, .v 30, .v 31]], .call 235 31 [[.v 0, .v 1, .v 2, .v 3, .v 4, .v 5, .v 6, .v 7, .v 8, .v 9, .v 10, .v 11, .v 12, .v 13, .v 14, .v 15, .v 16, .v 17, .v 18, .v 19, .v 20, .v 21, .v 22, .v 23, .v 24, .v 25, .v 26, .v 27, .v 28, .v 29, .v 30, .v 31]] 32, .eqs 267 [(.v 203, .v 235), (.v 204, .v 236), (.v 205, .v 237), (.v 206, .v 238), (.v 207, .v 239), (.v 208, .v 240), (.v 209, .v 241), (.v 210, .v 242), (.v 211, .v 243), (.v 212, .v 244), (.v 213, .v 245), (.v 214, .v 246), (.v 215, .v 247), (.v 216, .v 248), (.v 217, .v 249), (.v 218, .v 250), (.v 219, .v 251), (.v 220, .v 252), (.v 221, .v 253), (.v 222, .v 254), (.v 223, .v 255), (.v 224, .v 256), (.v 225, .v 257), (.v 226, .v 258), (.v 227, .v 259), (.v 228, .v 260), (.v 229, .v 261), (.v 230, .v 262), (.v 231, .v 263), (.v 232, .v 264), (.v 233, .v 265), (.v 234, .v 266)], .cond 267 true, .bin 268 .and .u8 (.v 170) (.l 1), .cmp 269 .eql (.v 268) (.l 0), .cond 269 true]) (refs := [.l 1]) (by kernel_rfl) fun ρ hρ hd => ?_
      have ea := seg0 la hρ
      simp only [D_nil, D_add, D_sub, D_mul, D_and, D_or, D_xor, D_shl, D_shr, D_andNot, D_quo, D_rem, D_add_i64, D_sub_i64, D_mul_i64, D_add_u32, D_sub_u32, D_mul_u32, D_add_u8, D_sub_u8, D_mul_u8, D_eql, D_neq, D_lss, D_leq, D_gtr, D_geq, D_not, D_conv, D_eqs, D_call, D_cond, D_need, D_idx, D_sel, D_upd, D_shv, D_beq, List.map_cons, List.map_nil, Ref.den] at hd
      obtain ⟨h32, h33, h34, h66, h99, h100, h132, h133, h134, h135, h136, h168, h169, h170, h203, h235, h267, h268, h269, -⟩ := hd
      have s32 : ρ 32 = 1 := h32 0 (by decide)
      have s34 : seg ρ 34 32 = dg 256 32 (dv 256 (seg ρ 0 32) * dv 256 (seg ρ 0 32) % PP) := seg_of h34 (by first | exact dg_len _ _ _ | rfl)
      have s100 : seg ρ 100 32 = dg 256 32 (dv 256 (seg ρ 66 32) * dv 256 (seg ρ 66 32) % PP) := seg_of h100 (by first | exact dg_len _ _ _ | rfl)
      have q132 : ρ 132 = b2i (decide ((seg ρ 100 32) = (seg ρ 34 32))) := h132.trans (congrArg b2i eqs_lists)
      have s136 : seg ρ 136 32 = dg 256 32 (dv 256 (seg ρ 0 32) % PP) := seg_of h136 (by first | exact dg_len _ _ _ | rfl)
      have q168 : ρ 168 = b2i (decide ((seg ρ 66 32) = (seg ρ 136 32))) := h168.trans (congrArg b2i eqs_lists)
      have s203 : seg ρ 203 32 = dg 256 32 (dv 256 (seg ρ 170 32) * dv 256 (seg ρ 170 32) % PP) := seg_of h203 (by first | exact dg_len _ _ _ | rfl)
      have s235 : seg ρ 235 32 = dg 256 32 (dv 256 (seg ρ 0 32) % PP) := seg_of h235 (by first | exact dg_len _ _ _ | rfl)
      have q267 : ρ 267 = b2i (decide ((seg ρ 203 32) = (seg ρ 235 32))) := h267.trans (congrArg b2i eqs_lists)
      have k33 := not_bit h33 s32
      rw [ea, ← hA] at s34
      have vS : dv 256 (seg ρ 34 32) = A * A % PP := by rw [s34, dvq]
      obtain ⟨s66, r98⟩ := (root_seg h66).1 (by rw [list_seg ρ 34, vS]; exact hS)
      rw [list_seg ρ 34, vS, ← hr] at s66
      have vr : dv 256 (seg ρ 66 32) = r := by rw [s66]; exact dv_small br
      have k99 := not_bit h99 r98
      rw [vr, hrr] at s100
      rw [s100, s34] at q132
      have k133 := not_bit h133 (q132.trans (by rw [decide_eq_true rfl]; rfl))
      have k135 := even_first vr heven (show ρ 66 = (seg ρ 66 32).getD 0 0 from rfl) (by rw [s66]) h134 h135
      rw [ea, ← hA] at s136
      rw [s66, s136] at q168
      have k169 := not_bit h169 (q168.trans (by rw [decide_eq_true (by rw [hn])]; rfl))
      obtain ⟨t0, k2020⟩ := (root_seg h170).1 (by rw [list_seg ρ 0, ea, ← hA]; exact hc)
      have k202 := bit_one k2020
      rw [list_seg ρ 0, ea, ← hA, ← ht] at t0
      have vt : dv 256 (seg ρ 170 32) = t := by rw [t0]; exact dv_small bt
      rw [vt, htt hc] at s203
      rw [ea, ← hA] at s235
      rw [s203, s235] at q267
      have k267 := bit_one (q267.trans (by rw [decide_eq_true rfl]; rfl))
      have k269 := even_first' vt htev (show ρ 170 = (seg ρ 170 32).getD 0 0 from rfl) (by rw [t0]) h268 h269
      refine ⟨?_, rfl⟩
      simp only [G_nil, G_bin, G_cmp, G_not, G_conv, G_eqs, G_call, G_cond, G_need, G_idx, G_sel, G_upd, G_shv, G_beq, List.map_cons, List.map_nil, Ref.den]
      exact ⟨trivial, k33, trivial, trivial, k99, trivial, k133, k135, trivial, k169, trivial, k202, trivial, trivial, k267, k269, trivial⟩
    · refine Go.Sx.Way.of (dec := [false,false,false,false,false,false]) (fs := [.need 40 [], .call 32 40 [] 1, .not 33 (.v 32), .cond 33 false, .need 35 [[.v 0, .v 1, .v 2, .v 3, .v 4, .v 5, .v 6, .v 7, .v 8, .v 9, .v 10, .v 11, .v 12, .v 13, .v 14, .v 15, .v 16, .v 17, .v 18, .v 19, .v 20, .v 21, .v 22, .v 23, .v 24, .v 25, .v 26, .v 27, .v 28, .v 29, .v 30, .v 31], [.v 0, .v 1, .v 2, .v 3, .v 4, .v 5, .v 6, .v 7, .v 8, .v 9, .v 10, .v 11, .v 12, .v 13, .v 14, .v 15, .v 16, .v 17, .v 18, .v 19, .v 20, .v 21, .v 22, .v 23, .v 24, .v 25, .v 26, .v 27, .v 28, .v 29, .v 30, .v 31]], .call 34 35 [[.v 0, .v 1, .v 2, .v 3, .v 4, .v 5, .v 6, .v 7, .v 8, .v 9, .v 10, .v 11, .v 12, .v 13, .v 14, .v 15, .v 16, .v 17, .v 18, .v 19, .v 20, .v 21, .v 22, .v 23, .v 24, .v 25, .v 26, .v 27, .v 28, .v 29, .v 30, .v 31], [.v 0, .v 1, .v 2, .v 3, .v 4, .v 5, .v 6, .v 7, .v 8, .v 9, .v 10, .v 11, .v 12, .v 13, .v 14, .v 15, .v 16, .v 17, .v 18, .v 19, .v 20, .v 21, .v 22, .v 23, .v 24, .v 25, .v 26, .v 27, .v 28, .v 29, .v 30, .v 31]] 32, .need 39 [[.v 34, .v 35, .v 36, .v 37, .v 38, .v 39, .v 40, .v 41, .v 42, .v 43, .v 44, .v 45, .v 46, .v 47, .v 48, .v 49, .v 50, .v 51, .v 52, .v 53, .v 54, .v 55, .v 56, .v 57, .v 58, .v 59, .v 60, .v 61, .v 62, .v 63, .v 64, .v 65]], .call 66 39 [[.v 34, .v 35, .v 36, .v 37, .v 38, .v 39, .v 40, .v 41, .v 42, .v 43, .v 44, .v 45, .v 46, .v 47, .v 48, .v 49, .v 50, .v 51, .v 52, .v 53, .v 54, .v 55, .v 56, .v 57, .v 58, .v 59, .v 60, .v 61, .v 62, .v 63, .v 64, .v 65]] 33, .not 99 (.v 98), .cond 99 false, .need 35 [[.v 66, .v 67, .v 68, .v 69, .v 70, .v 71, .v 72, .v 73, .v 74, .v 75, .v 76, .v 77, .v 78, .v 79, .v 80, .v 81, .v 82, .v 83, .v 84, .v 85, .v 86, .v 87, .v 88, .v 89, .v 90, .v 91, .v 92, .v 93, .v 94, .v 95, .v 96, .v 97], [.v 66, .v 67, .v 68, .v 69, .v 70, .v 71, .v 72, .v 73, .v 74, .v 75, .v 76, .v 77, .v 78, .v 79, .v 80, .v 81, .v 82, .v 83, .v 84, .v 85, .v 86, .v 87, .v 88, .v 89, .v 90, .v 91, .v 92, .v 93, .v 94, .v 95, .v 96, .v 97]], .call 100 35 [[.v 66, .v 67, .v 68, .v 69, .v 70, .v 71, .v 72, .v 73, .v 74, .v 75, .v 76, .v 77, .v 78, .v 79, .v 80, .v 81, .v 82, .v 83, .v 84, .v 85, .v 86, .v 87, .v 88, .v 89, .v 90, .v 91, .v 92, .v 93, .v 94, .v 95, .v 96, .v 97], [.v 66, .v 67, .v 68, .v 69, .v 70, .v 71, .v 72, .v 73, .v 74, .v 75, .v 76, .v 77, .v 78, .v 79, .v 80, .v 81, .v 82, .v 83, .v 84, .v 85, .v 86, .v 87, .v 88, .v 89, .v 90, .v 91, .v 92, .v 93, .v 94, .v 95, .v 96, .v 97]] 32, .eqs 132 [(.v 100, .v 34), (.v 101, .v 35), (.v 102, .v 36), (.v 103, .v 37), (.v 104, .v 38), (.v 105, .v 39), (.v 106, .v 40), (.v 107, .v 41), (.v 108, .v 42), (.v 109, .v 43), (.v 110, .v 44), (.v 111, .v 45), (.v 112, .v 46), (.v 113, .v 47), (.v 114, .v 48), (.v 115, .v 49), (.v 116, .v 50), (.v 117, .v 51), (.v 118, .v 52), (.v 119, .v 53), (.v 120, .v 54), (.v 121, .v 55), (.v 122, .v 56), (.v 123, .v 57), (.v 124, .v 58), (.v 125, .v 59), (.v 126, .v 60), (.v 127, .v 61), (.v 128, .v 62), (.v 129, .v 63), (.v 130, .v 64), (.v 131, .v 65)], .not 133 (.v 132), .cond 133 false, .bin 134 .and .u8 (.v 66) (.l 1), .cmp 135 .neq (.v 134) (.l 0), .cond 135 false, .need 31 [[.v 0, .v 1, .v 2, .v 3, .v 4, .v 5, .v 6, .v 7, .v 8, .v 9, .v 10, .v 11, .v 12, .v 13, .v 14, .v 15, .v 16, .v 17, .v 18, .v 19, .v 20, .v 21, .v 22, .v 23, .v 24, .v 25, .v 26, .v 27, .v 28, .v 29, .v 30, .v 31]], .call 136 31 [[.v 0, .v 1, .v 2, .v 3, .v 4, .v 5, .v 6, .v 7, .v 8, .v 9, .v 10, .v 11, .v 12, .v 13, .v 14, .v 15, .v 16, .v 17, .v 18, .v 19, .v 20, .v 21, .v 22, .v 23, .v 24, .v 25, .v 26, .v 27, .v 28, .v 29, .v 30, .v 31]] 32, .eqs 168 [(.v 66, .v 136), (.v 67, .v 137), (.v 68, .v 138), (.v 69, .v 139), (.v 70, .v 140), (.v 71, .v 141), (.v 72, .v 142), (.v 73, .v 143), (.v 74, .v 144), (.v 75, .v 145), (.v 76, .v 146), (.v 77, .v 147), (.v 78, .v 148), (.v 79, .v 149), (.v 80, .v 150), (.v 81, .v 151), (.v 82, .v 152), (.v 83, .v 153), (.v 84, .v 154), (.v 85, .v 155), (.v 86, .v 156), (.v 87, .v 157), (.v 88, .v 158), (.v 89, .v 159), (.v 90, .v 160), (.v 91, .v 161), (.v 92, .v 162), (.v 93, .v 163), (.v 94, .v 164), (.v 95, .v 165), (.v 96, .v 166), (.v 97, .v 167)], .not 169 (.v 168), .cond 169 false, .need 39 [[.v 0, .v 1, .v 2, .v 3, .v 4, .v 5, .v 6, .v 7, .v 8, .v 9, .v 10, .v 11, .v 12, .v 13, .v 14, .v 15, .v 16, .v 17, .v 18, .v 19, .v 20, .v 21, .v 22, .v 23, .v 24, .v 25, .v 26, .v 27, .v 28, .v 29, .v 30, .v 31]], .call 170 39 [[.v 0, .v 1, .v 2, .v 3, .v 4, .v 5, .v 6, .v 7, .v 8, .v 9, .v 10, .v 11, .v 12, .v 13, .v 14, .v 15, .v 16, .v 17, .v 18, .v 19, .v 20, .v 21, .v 22, .v 23, .v 24, .v 25, .v 26, .v 27, .v 28, .v 29, .v 30, .v 31]] 33, .cond 202 false, .eqs 203 [(.v 170, .l 0), (.v 171, .l 0), (.v 172, .l 0), (.v 173, .l 0), (.v 174, .l 0), (.v 175, .l 0), (.v 176, .l 0), (.v 177, .l 0), (.v 178, .l 0), (.v 179, .l 0), (.v 180, .l 0), (.v 181, .l 0), (.v 182, .l 0), (.v 183, .l 0), (.v 184, .l 0), (.v 185, .l 0), (.v 186, .l 0), (.v 187, .l 0), (.v 188, .l 0), (.v 189, .l 0), (.v 190, .l 0), (.v 191, .l 0), (.v 192, .l 0), (.v 193, .l 0), (.v 194, .l 0), (.v 195, .l 0), (.v 196, .l 0), (.v 197, .l 0), (.v 198, .l 0), (.v 199, .l 0), (.v 200, .l 0), (.v 201, .l 0)]]) (refs := [.v 203]) (by kernel_rfl) fun ρ hρ hd => ?_
      have ea := seg0 la hρ
      simp only [D_nil, D_add, D_sub, D_mul, D_and, D_or, D_xor, D_shl, D_shr, D_andNot, D_quo, D_rem, D_add_i64, D_sub_i64, D_mul_i64, D_add_u32, D_sub_u32, D_mul_u32, D_add_u8, D_sub_u8, D_mul_u8, D_eql, D_neq, D_lss, D_leq, D_gtr, D_geq, D_not, D_conv, D_eqs, D_call, D_cond, D_need, D_idx, D_sel, D_upd, D_shv, D_beq, List.map_cons, List.map_nil, Ref.den] at hd
      obtain ⟨h32, h33, h34, h66, h99, h100, h132, h133, h134, h135, h136, h168, h169, h170, h203, -⟩ := hd
      have s32 : ρ 32 = 1 := h32 0 (by decide)
      have s34 : seg ρ 34 32 = dg 256 32 (dv 256 (seg ρ 0 32) * dv 256 (seg ρ 0 32) % PP) := seg_of h34 (by first | exact dg_len _ _ _ | rfl)
      have s100 : seg ρ 100 32 = dg 256 32 (dv 256 (seg ρ 66 32) * dv 256 (seg ρ 66 32) % PP) := seg_of h100 (by first | exact dg_len _ _ _ | rfl)
      have q132 : ρ 132 = b2i (decide ((seg ρ 100 32) = (seg ρ 34 32))) := h132.trans (congrArg b2i eqs_lists)
      have s136 : seg ρ 136 32 = dg 256 32 (dv 256 (seg ρ 0 32) % PP) := seg_of h136 (by first | exact dg_len _ _ _ | rfl)
      have q168 : ρ 168 = b2i (decide ((seg ρ 66 32) = (seg ρ 136 32))) := h168.trans (congrArg b2i eqs_lists)
      have q203 : ρ 203 = b2i (decide ((seg ρ 170 32) = [0, 0, 0, 0, 0, 0, 0, 0, 0, 0, 0, 0, 0, 0, 0, 0, 0, 0, 0, 0, 0, 0, 0, 0, 0, 0, 0, 0, 0, 0, 0, 0])) := h203.trans (congrArg b2i eqs_lists)
      have k33 := not_bit h33 s32
      rw [ea, ← hA] at s34
      have vS : dv 256 (seg ρ 34 32) = A * A % PP := by rw [s34, dvq]
      obtain ⟨s66, r98⟩ := (root_seg h66).1 (by rw [list_seg ρ 34, vS]; exact hS)
      rw [list_seg ρ 34, vS, ← hr] at s66
      have vr : dv 256 (seg ρ 66 32) = r := by rw [s66]; exact dv_small br
      have k99 := not_bit h99 r98
      rw [vr, hrr] at s100
      rw [s100, s34] at q132
      have k133 := not_bit h133 (q132.trans (by rw [decide_eq_true rfl]; rfl))
      have k135 := even_first vr heven (show ρ 66 = (seg ρ 66 32).getD 0 0 from rfl) (by rw [s66]) h134 h135
      rw [ea, ← hA] at s136
      rw [s66, s136] at q168
      have k169 := not_bit h169 (q168.trans (by rw [decide_eq_true (by rw [hn])]; rfl))
      obtain ⟨t0, k2020⟩ := (root_seg h170).2 (by rw [list_seg ρ 0, ea, ← hA]; exact hc)
      have k202 := bit_zero k2020
      have z0 : dg 256 32 0 = [0, 0, 0, 0, 0, 0, 0, 0, 0, 0, 0, 0, 0, 0, 0, 0, 0, 0, 0, 0, 0, 0, 0, 0, 0, 0, 0, 0, 0, 0, 0, 0] := by decide +kernel
      rw [t0, z0] at q203
      have k203 : ρ 203 = 1 := q203.trans (by rw [decide_eq_true rfl]; rfl)
      refine ⟨?_, by show [ρ 203] = [1]; rw [k203]⟩
      simp only [G_nil, G_bin, G_cmp, G_not, G_conv, G_eqs, G_call, G_cond, G_need, G_idx, G_sel, G_upd, G_shv, G_beq, List.map_cons, List.map_nil, Ref.den]
      exact ⟨trivial, k33, trivial, trivial, k99, trivial, k133, k135, trivial, k169, trivial, k202, trivial⟩
  · by_cases hc : (rootT A * rootT A) % PP = A % PP
    · refine Go.Sx.Way.of (dec := [false,false,false,false,true,false,true,true,true]) (fs := [.need 40 [], .call 32 40 [] 1, .not 33 (.v 32), .cond 33 false, .need 35 [[.v 0, .v 1, .v 2, .v 3, .v 4, .v 5, .v 6, .v 7, .v 8, .v 9, .v 10, .v 11, .v 12, .v 13, .v 14, .v 15, .v 16, .v 17, .v 18, .v 19, .v 20, .v 21, .v 22, .v 23, .v 24, .v 25, .v 26, .v 27, .v 28, .v 29, .v 30, .v 31], [.v 0, .v 1, .v 2, .v 3, .v 4, .v 5, .v 6, .v 7, .v 8, .v 9, .v 10, .v 11, .v 12, .v 13, .v 14, .v 15, .v 16, .v 17, .v 18, .v 19, .v 20, .v 21, .v 22, .v 23, .v 24, .v 25, .v 26, .v 27, .v 28, .v 29, .v 30, .v 31]], .call 34 35 [[.v 0, .v 1, .v 2, .v 3, .v 4, .v 5, .v 6, .v 7, .v 8, .v 9, .v 10, .v 11, .v 12, .v 13, .v 14, .v 15, .v 16, .v 17, .v 18, .v 19, .v 20, .v 21, .v 22, .v 23, .v 24, .v 25, .v 26, .v 27, .v 28, .v 29, .v 30, .v 31], [.v 0, .v 1, .v 2, .v 3, .v 4, .v 5, .v 6, .v 7, .v 8, .v 9, .v 10, .v 11, .v 12, .v 13, .v 14, .v 15, .v 16, .v 17, .v 18, .v 19, .v 20, .v 21, .v 22, .v 23, .v 24, .v 25, .v 26, .v 27, .v 28, .v 29, .v 30, .v 31]] 32, .need 39 [[.v 34, .v 35, .v 36, .v 37, .v 38, .v 39, .v 40, .v 41, .v 42, .v 43, .v 44, .v 45, .v 46, .v 47, .v 48, .v 49, .v 50, .v 51, .v 52, .v 53, .v 54, .v 55, .v 56, .v 57, .v 58, .v 59, .v 60, .v 61, .v 62, .v 63, .v 64, .v 65]], .call 66 39 [[.v 34, .v 35, .v 36, .v 37, .v 38, .v 39, .v 40, .v 41, .v 42, .v 43, .v 44, .v 45, .v 46, .v 47, .v 48, .v 49, .v 50, .v 51, .v 52, .v 53, .v 54, .v 55, .v 56, .v 57, .v 58, .v 59, .v 60, .v 61, .v 62, .v 63, .v 64, .v 65]] 33, .not 99 (.v 98), .cond 99 false, .need 35 [[.v 66, .v 67, .v 68, .v 69, .v 70, .v 71, .v 72, .v 73, .v 74, .v 75, .v 76, .v 77, .v 78, .v 79, .v 80, .v 81, .v 82, .v 83, .v 84, .v 85, .v 86, .v 87, .v 88, .v 89, .v 90, .v 91, .v 92, .v 93, .v 94, .v 95, .v 96, .v 97], [.v 66, .v 67, .v 68, .v 69, .v 70, .v 71, .v 72, .v 73, .v 74, .v 75, .v 76, .v 77, .v 78, .v 79, .v 80, .v 81, .v 82, .v 83, .v 84, .v 85, .v 86, .v 87, .v 88, .v 89, .v 90, .v 91, .v 92, .v 93, .v 94, .v 95, .v 96, .v 97]], .call 100 35 [[.v 66, .v 67, .v 68, .v 69, .v 70, .v 71, .v 72, .v 73, .v 74, .v 75, .v 76, .v 77, .v 78, .v 79, .v 80, .v 81, .v 82, .v 83, .v 84, .v 85, .v 86, .v 87, .v 88, .v 89, .v 90, .v 91, .v 92, .v 93, .v 94, .v 95, .v 96, .v 97], [.v 66, .v 67, .v 68, .v 69, .v 70, .v 71, .v 72, .v 73, .v 74, .v 75, .v 76, .v 77, .v 78, .v 79, .v 80, .v 81, .v 82, .v 83, .v 84, .v 85, .v 86, .v 87, .v 88, .v 89, .v 90, .v 91, .v 92, .v 93, .v 94, .v 95, .v 96, .v 97]] 32, .eqs 132 [(.v 100, .v 34), (.v 101, .v 35), (.v 102, .v 36), (.v 103, .v 37), (.v 104, .v 38), (.v 105, .v 39), (.v 106, .v 40), (.v 107, .v 41), (.v 108, .v 42), (.v 109, .v 43), (.v 110, .v 44), (.v 111, .v 45), (.v 112, .v 46), (.v 113, .v 47), (.v 114, .v 48), (.v 115, .v 49), (.v 116, .v 50), (.v 117, .v 51), (.v 118, .v 52), (.v 119, .v 53), (.v 120, .v 54), (.v 121, .v 55), (.v 122, .v 56), (.v 123, .v 57), (.v 124, .v 58), (.v 125, .v 59), (.v 126, .v 60), (.v 127, .v 61), (.v 128, .v 62), (.v 129, .v 63), (.v 130, .v 64), (.v 131, .v 65)], .not 133 (.v 132), .cond 133 false, .bin 134 .and .u8 (.v 66) (.l 1), .cmp 135 .neq (.v 134) (.l 0), .cond 135 false, .need 31 [[.v 0, .v 1, .v 2, .v 3, .v 4, .v 5, .v 6, .v 7, .v 8, .v 9, .v 10, .v 11, .v 12, .v 13, .v 14, .v 15, .v 16, .v 17, .v 18, .v 19, .v 20, .v 21, .v 22, .v 23, .v 24, .v 25, .v 26, .v 27, .v 28, .v 29, .v 30, .v 31]], .call 136 31 [[.v 0, .v 1, .v 2, .v 3, .v 4, .v 5, .v 6, .v 7, .v 8, .v 9, .v 10, .v 11, .v 12, .v 13, .v 14, .v 15, .v 16, .v 17, .v 18, .v 19, .v 20, .v 21, .v 22, .v 23, .v 24, .v 25, .v 26, .v 27, .v 28, .v 29, .v 30, .v 31]] 32, .eqs 168 [(.v 66, .v 136), (.v 67, .v 137), (.v 68, .v 138), (.v 69, .v 139), (.v 70, .v 140), (.v 71, .v 141), (.v 72, .v 142), (.v 73, .v 143), (.v 74, .v 144), (.v 75, .v 145), (.v 76, .v 146), (.v 77, .v 147), (.v 78, .v 148), (.v 79, .v 149), (.v 80, .v 150), (.v 81, .v 151), (.v 82, .v 152), (.v 83, .v 153), (.v 84, .v 154), (.v 85, .v 155), (.v 86, .v 156), (.v 87, .v 157), (.v 88, .v 158), (.v 89, .v 159), (.v 90, .v 160), (.v 91, .v 161), (.v 92, .v 162), (.v 93, .v 163), (.v 94, .v 164), (.v 95, .v 165), (.v 96, .v 166), (.v 97, .v 167)], .not 169 (.v 168), .cond 169 true, .need 34 [[.l 0, .l 0, .l 0, .l 0, .l 0, .l 0, .l 0, .l 0, .l 0, .l 0, .l 0, .l 0, .l 0, .l 0, .l 0, .l 0, .l 0, .l 0, .l 0, .l 0, .l 0, .l 0, .l 0, .l 0, .l 0, .l 0, .l 0, .l 0, .l 0, .l 0, .l 0, .l 0], [.v 0, .v 1, .v 2, .v 3, .v 4, .v 5, .v 6, .v 7, .v 8, .v 9, .v 10, .v 11, .v 12, .v 13, .v 14, .v 15, .v 16, .v 17, .v 18, .v 19, .v 20, .v 21, .v 22, .v 23, .v 24, .v 25, .v 26, .v 27, .v 28, .v 29, .v 30, .v 31]], .call 170 34 [[.l 0, .l 0, .l 0, .l 0, .l 0, .l 0, .l 0, .l 0, .l 0, .l 0, .l 0, .l 0, .l 0, .l 0, .l 0, .l 0, .l 0, .l 0, .l 0, .l 0, .l 0, .l 0, .l 0, .l 0, .l 0, .l 0, .l 0, .l 0, .l 0, .l 0, .l 0, .l 0], [.v 0, .v 1, .v 2, .v 3, .v 4, .v 5, .v 6, .v 7, .v 8, .v 9, .v 10, .v 11, .v 12, .v 13, .v 14, .v 15, .v 16, .v 17, .v 18, .v 19, .v 20, .v 21, .v 22, .v 23, .v 24, .v 25, .v 26, .v 27, .v 28, .v 29, .v 30, .v 31]] 32, .eqs 202 [(.v 66, .v 170), (.v 67, .v 171), (.v 68, .v 172), (.v 69, .v 173), (.v 70, .v 174), (.v 71, .v 175), (.v 72, .v 176), (.v 73, .v 177), (.v 74, .v 178), (.v 75, .v 179), (.v 76, .v 180), (.v 77, .v 181), (.v 78, .v 182), (.v 79, .v 183), (.v 80, .v 184), (.v 81, .v 185), (.v 82, .v 186), (.v 83, .v 187), (.v 84, .v 188), (.v 85, .v 189), (.v 86, .v 190), (.v 87, .v 191), (.v 88, .v 192), (.v 89, .v 193), (.v 90, .v 194), (.v 91, .v 195), (.v 92, .v 196), (.v 93, .v 197), (.v 94, .v 198), (.v 95, .v 199), (.v 96, .v 200), (.v 97, .v 201)], .not 203 (.v 202), .cond 203 false, .need 39 [[.v 0, .v 1, .v 2, .v 3, .v 4, .v 5, .v 6, .v 7, .v 8, .v 9, .v 10, .v 11, .v 12, .v 13, .v 14, .v 15, .v 16, .v 17, .v 18, .v 19, .v 20, .v 21, .v 22, .v 23, .v 24, .v 25, .v 26, .v 27, .v 28, .v 29, .v 30, .v 31]], .call 204 39 [[.v 0, .v 1, .v 2, .v 3, .v 4, .v 5, .v 6, .v 7, .v 8, .v 9, .v 10, .v 11, .v 12, .v 13, .v 14, .v 15, .v 16, .v 17, .v 18, .v 19, .v 20, .v 21, .v 22, .v 23, .v 24, .v 25, .v 26, .v 27, .v 28, .v 29, .v 30, .v 31]] 33, .cond 236 true, .need 35 [[.v 204, .v 205, .v 206, .v 207, .v 208, .v 209, .v 210, .v 211, .v 212, .v 213, .v 214, .v 215, .v 216, .v 217, .v 218, .v 219, .v 220, .v 221, .v 222, .v 223, .v 224, .v 225, .v 226, .v 227, .v 228, .v 229, .v 230, .v 231, .v 232, .v 233, .v 234, .v 235], [.v 204, .v 205, .v 206, .v 207, .v 208, .v 209, .v 210, .v 211, .v 212, .v 213, .v 214, .v 215, .v 216, .v 217, .v 218, .v 219, .v 220, .v 221, .v 222, .v 223, .v 224, .v 225, .v 226, .v 227, .v 228, .v 229, .v 230, .v 231, .v 232, .v 233, .v 234, .v 235]], .call 237 35 [[.v 204, .v 205, .v 206, .v 207, .v 208, .v 209, .v 210, .v 211, .v 212, .v 213, .v 214, .v 215, .v 216, .v 217, .v 218, .v 219, .v 220, .v 221, .v 222, .v 223, .v 224, .v 225, .v 226, .v 227, .v 228, .v 229, .v 230, .v 231, .v 232, .v 233, .v 234, .v 235], [.v 204, .v 205, .v 206, .v 207, .v 208, .v 209, .v 210, .v 211, .v 212, .v 213, .v 214, .v 215, .v 216, .v 217, .v 218, .v 219, .v 220, .v 221, .v 222, .v 223, .v 224, .v 225, .v 226, .v 227, .v 228, .v 229, .v 230, .v 231, .v 232, .v 233, .v 234, .v 235]] 32, .need 31 [[.v 0, .v 1, .v 2, .v 3, .v 4, .v 5, .v 6, .v 7, .v 8, .v 9, .v 10, .v 11, .v 12, .v 13, .v 14, .v 15, .v 16, .v 17, .v 18, .v 19, .v 20, .v 21, .v 22, .v 23, .v 24, .v 25, .v 26, .v 27, .v 28, .v 29, .v 30, .v 31]], .call 269 31 [[.v 0, .v 1, .v 2, .v 3, .v 4, .v 5, .v 6, .v 7, .v 8, .v 9, .v 10, .v 11, .v 12, .v 13, .v 14, .v 15, .v 16, .v 17, .v 18, .v 19, .v 20, .v 21, .v 22, .v 23, .v 24, .v 25, .v 26, .v 27, .v 28, .v 29, .v 30, .v 31]] 32, .eqs 301 [(.v 237, .v 269), (.v 238, .v 270), (.v 239, .v 271), (.v 240, .v 272), (.v 241, .v 273), (.v 242, .v 274), (.v 243, .v 275), (.v 244, .v 276), (.v 245, .v 277), (.v 246, .v 278), (.v 247, .v 279), (.v 248, .v 280), (.v 249, .v 281), (.v 250, .v 282), (.v 251, .v 283), (.v 252, .v 284), (.v 253, .v 285), (.v 254, .v 286), (.v 255, .v 287), (.v 256, .v 288), (.v 257, .v 289), (.v 258, .v 290), (.v 259, .v 291), (.v 260, .v 292), (.v 261, .v 293), (.v 262, .v 294), (.v 263, .v 295), (.v 264, .v 296), (.v 265, .v 297), (.v 266, .v 298), (.v 267, .v 299), (.v 268, .v 300)], .cond 301 true, .bin 302 .and .u8 (.v 204) (.l 1), .cmp 303 .eql (.v 302) (.l 0), .cond 303 true]) (refs := [.l 1]) (by kernel_rfl) fun ρ hρ hd => ?_
      have ea := seg0 la hρ
      simp only [D_nil, D_add, D_sub, D_mul, D_and, D_or, D_xor, D_shl, D_shr, D_andNot, D_quo, D_rem, D_add_i64, D_sub_i64, D_mul_i64, D_add_u32, D_sub_u32, D_mul_u32, D_add_u8, D_sub_u8, D_mul_u8, D_eql, D_neq, D_lss, D_leq, D_gtr, D_geq, D_not, D_conv, D_eqs, D_call, D_cond, D_need, D_idx, D_sel, D_upd, D_shv, D_beq, List.map_cons, List.map_nil, Ref.den] at hd
      obtain ⟨h32, h33, h34, h66, h99, h100, h132, h133, h134, h135, h136, h168, h169, h170, h202, h203, h204, h237, h269, h301, h302, h303, -⟩ := hd
      have s32 : ρ 32 = 1 := h32 0 (by decide)
      have s34 : seg ρ 34 32 = dg 256 32 (dv 256 (seg ρ 0 32) * dv 256 (seg ρ 0 32) % PP) := seg_of h34 (by first | exact dg_len _ _ _ | rfl)
      have s100 : seg ρ 100 32 = dg 256 32 (dv 256 (seg ρ 66 32) * dv 256 (seg ρ 66 32) % PP) := seg_of h100 (by first | exact dg_len _ _ _ | rfl)
      have q132 : ρ 132 = b2i (decide ((seg ρ 100 32) = (seg ρ 34 32))) := h132.trans (congrArg b2i eqs_lists)
      have s136 : seg ρ 136 32 = dg 256 32 (dv 256 (seg ρ 0 32) % PP) := seg_of h136 (by first | exact dg_len _ _ _ | rfl)
      have q168 : ρ 168 = b2i (decide ((seg ρ 66 32) = (seg ρ 136 32))) := h168.trans (congrArg b2i eqs_lists)
      have s170 : seg ρ 170 32 = dg 256 32 ((dv 256 [0, 0, 0, 0, 0, 0, 0, 0, 0, 0, 0, 0, 0, 0, 0, 0, 0, 0, 0, 0, 0, 0, 0, 0, 0, 0, 0, 0, 0, 0, 0, 0] - dv 256 (seg ρ 0 32)) % PP) := seg_of h170 (by first | exact dg_len _ _ _ | rfl)
      have q202 : ρ 202 = b2i (decide ((seg ρ 66 32) = (seg ρ 170 32))) := h202.trans (congrArg b2i eqs_lists)
      have s237 : seg ρ 237 32 = dg 256 32 (dv 256 (seg ρ 204 32) * dv 256 (seg ρ 204 32) % PP) := seg_of h237 (by first | exact dg_len _ _ _ | rfl)
      have s269 : seg ρ 269 32 = dg 256 32 (dv 256 (seg ρ 0 32) % PP) := seg_of h269 (by first | exact dg_len _ _ _ | rfl)
      have q301 : ρ 301 = b2i (decide ((seg ρ 237 32) = (seg ρ 269 32))) := h301.trans (congrArg b2i eqs_lists)
      have k33 := not_bit h33 s32
      rw [ea, ← hA] at s34
      have vS : dv 256 (seg ρ 34 32) = A * A % PP := by rw [s34, dvq]
      obtain ⟨s66, r98⟩ := (root_seg h66).1 (by rw [list_seg ρ 34, vS]; exact hS)
      rw [list_seg ρ 34, vS, ← hr] at s66
      have vr : dv 256 (seg ρ 66 32) = r := by rw [s66]; exact dv_small br
      have k99 := not_bit h99 r98
      rw [vr, hrr] at s100
      rw [s100, s34] at q132
      have k133 := not_bit h133 (q132.trans (by rw [decide_eq_true rfl]; rfl))
      have k135 := even_first vr heven (show ρ 66 = (seg ρ 66 32).getD 0 0 from rfl) (by rw [s66]) h134 h135
      rw [ea, ← hA] at s136
      rw [s66, s136] at q168
      have k168 : ρ 168 = 0 := q168.trans (by rw [decide_eq_false (fun h => hn (dgn32 h br (rmod _)))]; rfl)
      have k169 := yes_bit h169 k168
      rw [ea, ← hA, show dv 256 [0, 0, 0, 0, 0, 0, 0, 0, 0, 0, 0, 0, 0, 0, 0, 0, 0, 0, 0, 0, 0, 0, 0, 0, 0, 0, 0, 0, 0, 0, 0, 0] = 0 by decide +kernel] at s170
      rw [s66, s170] at q202
      have k203 := not_bit h203 (q202.trans (by rw [decide_eq_true (by rw [hr2 hn])]; rfl))
      obtain ⟨t0, k2360⟩ := (root_seg h204).1 (by rw [list_seg ρ 0, ea, ← hA]; exact hc)
      have k236 := bit_one k2360
      rw [list_seg ρ 0, ea, ← hA, ← ht] at t0
      have vt : dv 256 (seg ρ 204 32) = t := by rw [t0]; exact dv_small bt
      rw [vt, htt hc] at s237
      rw [ea, ← hA] at s269
      rw [s237, s269] at q301
      have k301 := bit_one (q301.trans (by rw [decide_eq_true rfl]; rfl))
      have k303 := even_first' vt htev (show ρ 204 = (seg ρ 204 32).getD 0 0 from rfl) (by rw [t0]) h302 h303
      refine ⟨?_, rfl⟩
      simp only [G_nil, G_bin, G_cmp, G_not, G_conv, G_eqs, G_call, G_cond, G_need, G_idx, G_sel, G_upd, G_shv, G_beq, List.map_cons, List.map_nil, Ref.den]
      exact ⟨trivial, k33, trivial, trivial, k99, trivial, k133, k135, trivial, k169, trivial, k203, trivial, k236, trivial, trivial, k301, k303, trivial⟩
    · refine Go.Sx.Way.of (dec := [false,false,false,false,true,false,false]) (fs := [.need 40 [], .call 32 40 [] 1, .not 33 (.v 32), .cond 33 false, .need 35 [[.v 0, .v 1, .v 2, .v 3, .v 4, .v 5, .v 6, .v 7, .v 8, .v 9, .v 10, .v 11, .v 12, .v 13, .v 14, .v 15, .v 16, .v 17, .v 18, .v 19, .v 20, .v 21, .v 22, .v 23, .v 24, .v 25, .v 26, .v 27, .v 28, .v 29, .v 30, .v 31], [.v 0, .v 1, .v 2, .v 3, .v 4, .v 5, .v 6, .v 7, .v 8, .v 9, .v 10, .v 11, .v 12, .v 13, .v 14, .v 15, .v 16, .v 17, .v 18, .v 19, .v 20, .v 21, .v 22, .v 23, .v 24, .v 25, .v 26, .v 27, .v 28, .v 29, .v 30, .v 31]], .call 34 35 [[.v 0, .v 1, .v 2, .v 3, .v 4, .v 5, .v 6, .v 7, .v 8, .v 9, .v 10, .v 11, .v 12, .v 13, .v 14, .v 15, .v 16, .v 17, .v 18, .v 19, .v 20, .v 21, .v 22, .v 23, .v 24, .v 25, .v 26, .v 27, .v 28, .v 29, .v 30, .v 31], [.v 0, .v 1, .v 2, .v 3, .v 4, .v 5, .v 6, .v 7, .v 8, .v 9, .v 10, .v 11, .v 12, .v 13, .v 14, .v 15, .v 16, .v 17, .v 18, .v 19, .v 20, .v 21, .v 22, .v 23, .v 24, .v 25, .v 26, .v 27, .v 28, .v 29, .v 30, .v 31]] 32, .need 39 [[.v 34, .v 35, .v 36, .v 37, .v 38, .v 39, .v 40, .v 41, .v 42, .v 43, .v 44, .v 45, .v 46, .v 47, .v 48, .v 49, .v 50, .v 51, .v 52, .v 53, .v 54, .v 55, .v 56, .v 57, .v 58, .v 59, .v 60, .v 61, .v 62, .v 63, .v 64, .v 65]], .call 66 39 [[.v 34, .v 35, .v 36, .v 37, .v 38, .v 39, .v 40, .v 41, .v 42, .v 43, .v 44, .v 45, .v 46, .v 47, .v 48, .v 49, .v 50, .v 51, .v 52, .v 53, .v 54, .v 55, .v 56, .v 57, .v 58, .v 59, .v 60, .v 61, .v 62, .v 63, .v 64, .v 65]] 33, .not 99 (.v 98), .cond 99 false, .need 35 [[.v 66, .v 67, .v 68, .v 69, .v 70, .v 71, .v 72, .v 73, .v 74, .v 75, .v 76, .v 77, .v 78, .v 79, .v 80, .v 81, .v 82, .v 83, .v 84, .v 85, .v 86, .v 87, .v 88, .v 89, .v 90, .v 91, .v 92, .v 93, .v 94, .v 95, .v 96, .v 97], [.v 66, .v 67, .v 68, .v 69, .v 70, .v 71, .v 72, .v 73, .v 74, .v 75, .v 76, .v 77, .v 78, .v 79, .v 80, .v 81, .v 82, .v 83, .v 84, .v 85, .v 86, .v 87, .v 88, .v 89, .v 90, .v 91, .v 92, .v 93, .v 94, .v 95, .v 96, .v 97]], .call 100 35 [[.v 66, .v 67, .v 68, .v 69, .v 70, .v 71, .v 72, .v 73, .v 74, .v 75, .v 76, .v 77, .v 78, .v 79, .v 80, .v 81, .v 82, .v 83, .v 84, .v 85, .v 86, .v 87, .v 88, .v 89, .v 90, .v 91, .v 92, .v 93, .v 94, .v 95, .v 96, .v 97], [.v 66, .v 67, .v 68, .v 69, .v 70, .v 71, .v 72, .v 73, .v 74, .v 75, .v 76, .v 77, .v 78, .v 79, .v 80, .v 81, .v 82, .v 83, .v 84, .v 85, .v 86, .v 87, .v 88, .v 89, .v 90, .v 91, .v 92, .v 93, .v 94, .v 95, .v 96, .v 97]] 32, .eqs 132 [(.v 100, .v 34), (.v 101, .v 35), (.v 102, .v 36), (.v 103, .v 37), (.v 104, .v 38), (.v 105, .v 39), (.v 106, .v 40), (.v 107, .v 41), (.v 108, .v 42), (.v 109, .v 43), (.v 110, .v 44), (.v 111, .v 45), (.v 112, .v 46), (.v 113, .v 47), (.v 114, .v 48), (.v 115, .v 49), (.v 116, .v 50), (.v 117, .v 51), (.v 118, .v 52), (.v 119, .v 53), (.v 120, .v 54), (.v 121, .v 55), (.v 122, .v 56), (.v 123, .v 57), (.v 124, .v 58), (.v 125, .v 59), (.v 126, .v 60), (.v 127, .v 61), (.v 128, .v 62), (.v 129, .v 63), (.v 130, .v 64), (.v 131, .v 65)], .not 133 (.v 132), .cond 133 false, .bin 134 .and .u8 (.v 66) (.l 1), .cmp 135 .neq (.v 134) (.l 0), .cond 135 false, .need 31 [[.v 0, .v 1, .v 2, .v 3, .v 4, .v 5, .v 6, .v 7, .v 8, .v 9, .v 10, .v 11, .v 12, .v 13, .v 14, .v 15, .v 16, .v 17, .v 18, .v 19, .v 20, .v 21, .v 22, .v 23, .v 24, .v 25, .v 26, .v 27, .v 28, .v 29, .v 30, .v 31]], .call 136 31 [[.v 0, .v 1, .v 2, .v 3, .v 4, .v 5, .v 6, .v 7, .v 8, .v 9, .v 10, .v 11, .v 12, .v 13, .v 14, .v 15, .v 16, .v 17, .v 18, .v 19, .v 20, .v 21, .v 22, .v 23, .v 24, .v 25, .v 26, .v 27, .v 28, .v 29, .v 30, .v 31]] 32, .eqs 168 [(.v 66, .v 136), (.v 67, .v 137), (.v 68, .v 138), (.v 69, .v 139), (.v 70, .v 140), (.v 71, .v 141), (.v 72, .v 142), (.v 73, .v 143), (.v 74, .v 144), (.v 75, .v 145), (.v 76, .v 146), (.v 77, .v 147), (.v 78, .v 148), (.v 79, .v 149), (.v 80, .v 150), (.v 81, .v 151), (.v 82, .v 152), (.v 83, .v 153), (.v 84, .v 154), (.v 85, .v 155), (.v 86, .v 156), (.v 87, .v 157), (.v 88, .v 158), (.v 89, .v 159), (.v 90, .v 160), (.v 91, .v 161), (.v 92, .v 162), (.v 93, .v 163), (.v 94, .v 164), (.v 95, .v 165), (.v 96, .v 166), (.v 97, .v 167)], .not 169 (.v 168), .cond 169 true, .need 34 [[.l 0, .l 0, .l 0, .l 0, .l 0, .l 0, .l 0, .l 0, .l 0, .l 0, .l 0, .l 0, .l 0, .l 0, .l 0, .l 0, .l 0, .l 0, .l 0, .l 0, .l 0, .l 0, .l 0, .l 0, .l 0, .l 0, .l 0, .l 0, .l 0, .l 0, .l 0, .l 0], [.v 0, .v 1, .v 2, .v 3, .v 4, .v 5, .v 6, .v 7, .v 8, .v 9, .v 10, .v 11, .v 12, .v 13, .v 14, .v 15, .v 16, .v 17, .v 18, .v 19, .v 20, .v 21, .v 22, .v 23, .v 24, .v 25, .v 26, .v 27, .v 28, .v 29, .v 30, .v 31]], .call 170 34 [[.l 0, .l 0, .l 0, .l 0, .l 0, .l 0, .l 0, .l 0, .l 0, .l 0, .l 0, .l 0, .l 0, .l 0, .l 0, .l 0, .l 0, .l 0, .l 0, .l 0, .l 0, .l 0, .l 0, .l 0, .l 0, .l 0, .l 0, .l 0, .l 0, .l 0, .l 0, .l 0], [.v 0, .v 1, .v 2, .v 3, .v 4, .v 5, .v 6, .v 7, .v 8, .v 9, .v 10, .v 11, .v 12, .v 13, .v 14, .v 15, .v 16, .v 17, .v 18, .v 19, .v 20, .v 21, .v 22, .v 23, .v 24, .v 25, .v 26, .v 27, .v 28, .v 29, .v 30, .v 31]] 32, .eqs 202 [(.v 66, .v 170), (.v 67, .v 171), (.v 68, .v 172), (.v 69, .v 173), (.v 70, .v 174), (.v 71, .v 175), (.v 72, .v 176), (.v 73, .v 177), (.v 74, .v 178), (.v 75, .v 179), (.v 76, .v 180), (.v 77, .v 181), (.v 78, .v 182), (.v 79, .v 183), (.v 80, .v 184), (.v 81, .v 185), (.v 82, .v 186), (.v 83, .v 187), (.v 84, .v 188), (.v 85, .v 189), (.v 86, .v 190), (.v 87, .v 191), (.v 88, .v 192), (.v 89, .v 193), (.v 90, .v 194), (.v 91, .v 195), (.v 92, .v 196), (.v 93, .v 197), (.v 94, .v 198), (.v 95, .v 199), (.v 96, .v 200), (.v 97, .v 201)], .not 203 (.v 202), .cond 203 false, .need 39 [[.v 0, .v 1, .v 2, .v 3, .v 4, .v 5, .v 6, .v 7, .v 8, .v 9, .v 10, .v 11, .v 12, .v 13, .v 14, .v 15, .v 16, .v 17, .v 18, .v 19, .v 20, .v 21, .v 22, .v 23, .v 24, .v 25, .v 26, .v 27, .v 28, .v 29, .v 30, .v 31]], .call 204 39 [[.v 0, .v 1, .v 2, .v 3, .v 4, .v 5, .v 6, .v 7, .v 8, .v 9, .v 10, .v 11, .v 12, .v 13, .v 14, .v 15, .v 16, .v 17, .v 18, .v 19, .v 20, .v 21, .v 22, .v 23, .v 24, .v 25, .v 26, .v 27, .v 28, .v 29, .v 30, .v 31]] 33, .cond 236 false, .eqs 237 [(.v 204, .l 0), (.v 205, .l 0), (.v 206, .l 0), (.v 207, .l 0), (.v 208, .l 0), (.v 209, .l 0), (.v 210, .l 0), (.v 211, .l 0), (.v 212, .l 0), (.v 213, .l 0), (.v 214, .l 0), (.v 215, .l 0), (.v 216, .l 0), (.v 217, .l 0), (.v 218, .l 0), (.v 219, .l 0), (.v 220, .l 0), (.v 221, .l 0), (.v 222, .l 0), (.v 223, .l 0), (.v 224, .l 0), (.v 225, .l 0), (.v 226, .l 0), (.v 227, .l 0), (.v 228, .l 0), (.v 229, .l 0), (.v 230, .l 0), (.v 231, .l 0), (.v 232, .l 0), (.v 233, .l 0), (.v 234, .l 0), (.v 235, .l 0)]]) (refs := [.v 237]) (by kernel_rfl) fun ρ hρ hd => ?_
      have ea := seg0 la hρ
      simp only [D_nil, D_add, D_sub, D_mul, D_and, D_or, D_xor, D_shl, D_shr, D_andNot, D_quo, D_rem, D_add_i64, D_sub_i64, D_mul_i64, D_add_u32, D_sub_u32, D_mul_u32, D_add_u8, D_sub_u8, D_mul_u8, D_eql, D_neq, D_lss, D_leq, D_gtr, D_geq, D_not, D_conv, D_eqs, D_call, D_cond, D_need, D_idx, D_sel, D_upd, D_shv, D_beq, List.map_cons, List.map_nil, Ref.den] at hd
      obtain ⟨h32, h33, h34, h66, h99, h100, h132, h133, h134, h135, h136, h168, h169, h170, h202, h203, h204, h237, -⟩ := hd
      have s32 : ρ 32 = 1 := h32 0 (by decide)
      have s34 : seg ρ 34 32 = dg 256 32 (dv 256 (seg ρ 0 32) * dv 256 (seg ρ 0 32) % PP) := seg_of h34 (by first | exact dg_len _ _ _ | rfl)
      have s100 : seg ρ 100 32 = dg 256 32 (dv 256 (seg ρ 66 32) * dv 256 (seg ρ 66 32) % PP) := seg_of h100 (by first | exact dg_len _ _ _ | rfl)
      have q132 : ρ 132 = b2i (decide ((seg ρ 100 32) = (seg ρ 34 32))) := h132.trans (congrArg b2i eqs_lists)
      have s136 : seg ρ 136 32 = dg 256 32 (dv 256 (seg ρ 0 32) % PP) := seg_of h136 (by first | exact dg_len _ _ _ | rfl)
      have q168 : ρ 168 = b2i (decide ((seg ρ 66 32) = (seg ρ 136 32))) := h168.trans (congrArg b2i eqs_lists)
      have s170 : seg ρ 170 32 = dg 256 32 ((dv 256 [0, 0, 0, 0, 0, 0, 0, 0, 0, 0, 0, 0, 0, 0, 0, 0, 0, 0, 0, 0, 0, 0, 0, 0, 0, 0, 0, 0, 0, 0, 0, 0] - dv 256 (seg ρ 0 32)) % PP) := seg_of h170 (by first | exact dg_len _ _ _ | rfl)
      have q202 : ρ 202 = b2i (decide ((seg ρ 66 32) = (seg ρ 170 32))) := h202.trans (congrArg b2i eqs_lists)
      have q237 : ρ 237 = b2i (decide ((seg ρ 204 32) = [0, 0, 0, 0, 0, 0, 0, 0, 0, 0, 0, 0, 0, 0, 0, 0, 0, 0, 0, 0, 0, 0, 0, 0, 0, 0, 0, 0, 0, 0, 0, 0])) := h237.trans (congrArg b2i eqs_lists)
      have k33 := not_bit h33 s32
      rw [ea, ← hA] at s34
      have vS : dv 256 (seg ρ 34 32) = A * A % PP := by rw [s34, dvq]
      obtain ⟨s66, r98⟩ := (root_seg h66).1 (by rw [list_seg ρ 34, vS]; exact hS)
      rw [list_seg ρ 34, vS, ← hr] at s66
      have vr : dv 256 (seg ρ 66 32) = r := by rw [s66]; exact dv_small br
      have k99 := not_bit h99 r98
      rw [vr, hrr] at s100
      rw [s100, s34] at q132
      have k133 := not_bit h133 (q132.trans (by rw [decide_eq_true rfl]; rfl))
      have k135 := even_first vr heven (show ρ 66 = (seg ρ 66 32).getD 0 0 from rfl) (by rw [s66]) h134 h135
      rw [ea, ← hA] at s136
      rw [s66, s136] at q168
      have k168 : ρ 168 = 0 := q168.trans (by rw [decide_eq_false (fun h => hn (dgn32 h br (rmod _)))]; rfl)
      have k169 := yes_bit h169 k168
      rw [ea, ← hA, show dv 256 [0, 0, 0, 0, 0, 0, 0, 0, 0, 0, 0, 0, 0, 0, 0, 0, 0, 0, 0, 0, 0, 0, 0, 0, 0, 0, 0, 0, 0, 0, 0, 0] = 0 by decide +kernel] at s170
      rw [s66, s170] at q202
      have k203 := not_bit h203 (q202.trans (by rw [decide_eq_true (by rw [hr2 hn])]; rfl))
      obtain ⟨t0, k2360⟩ := (root_seg h204).2 (by rw [list_seg ρ 0, ea, ← hA]; exact hc)
      have k236 := bit_zero k2360
      have z0 : dg 256 32 0 = [0, 0, 0, 0, 0, 0, 0, 0, 0, 0, 0, 0, 0, 0, 0, 0, 0, 0, 0, 0, 0, 0, 0, 0, 0, 0, 0, 0, 0, 0, 0, 0] := by decide +kernel
      rw [t0, z0] at q237
      have k237 : ρ 237 = 1 := q237.trans (by rw [decide_eq_true rfl]; rfl)
      refine ⟨?_, by show [ρ 237] = [1]; rw [k237]⟩
      simp only [G_nil, G_bin, G_cmp, G_not, G_conv, G_eqs, G_call, G_cond, G_need, G_idx, G_sel, G_upd, G_shv, G_beq, List.map_cons, List.map_nil, Ref.den]
      exact ⟨trivial, k33, trivial, trivial, k99, trivial, k133, k135, trivial, k169, trivial, k203, trivial, k236, trivial⟩
#print axioms okFRoots
end Go.Proofs.Ytgjjndbogghfcaa
namespace Go.Proofs.Ytgjjndbogghfcaa.fieldRoots
open Go.RowKit Go.Bx Go.Sx
theorem walk (a : List UInt8) (na : a.length = 32) (w : World) :
    Calls Try.prog 8 #[.agg (bvs a).toArray] w fun e w' => e = .returned (.bool true) ∧ Below w.heap.size w w' :=
  CtrOK.calls okFRoots (fn := Try.f8) (body := (Try.f8).body.getD .skip) (by kernel_rfl) (by kernel_rfl) (by kernel_rfl) rfl (xs := [(a.map fun b => (b.toNat : Int))]) rfl trivial ⟨arg_u8 a na, trivial⟩
end Go.Proofs.Ytgjjndbogghfcaa.fieldRoots
