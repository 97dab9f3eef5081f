/- The statement PointStep: the law's walk, by the reckoning. No condition. -/
import Derived.Test.YtfobnajgnnccmaaPk5
namespace Go.Proofs.Ytfobnajgnnccmaa
open Go.RowKit Go.Bx Go.Sx
set_option linter.unusedSimpArgs false
set_option linter.unusedVariables false
theorem dig_z : ∀ {l : List Int}, (∀ z ∈ l, 0 ≤ z ∧ z < 256) → Dig 256 (l ++ List.replicate (32 - l.length) 0) := fun h => ⟨fun x hx => by
  rcases List.mem_append.1 hx with hx | hx
  · exact h x hx
  · obtain rfl := (List.mem_replicate.1 hx).2; decide⟩
def cStep : Ctr := ⟨3, 112, [.int .u32], [.bool]⟩
def PT5 : List Ctr := cPAwake :: PT4
theorem okPT5 : ∀ c ∈ PT5, CtrOK Try.prog pfns c := by
  intro c hc
  rcases List.mem_cons.1 hc with rfl | hc
  · exact okPAwake
  · exact okPT4 c hc
theorem okStep : CtrOK Try.prog pfns cStep := by
  refine CtrOK.of okPT5 mixed (lf := 300) (d := 5) rfl fun w vs xs ha _ => ?_
  obtain ⟨v, a, rfl, rfl, ⟨n, rfl, -, hn⟩⟩ := open1 ha
  rw [show pfns.g cStep.j [[n]] = [1] from rfl]
  have hn : 0 ≤ n ∧ n < 4294967296 := by obtain ⟨h1, h2⟩ := hn; simp only [lo, hi] at h1 h2; omega
  refine Go.Sx.Way.of (dec := [false]) (fs := [.need 111 [], .call 1 111 [] 1, .not 2 (.v 1), .cond 2 false, .conv 3 .u8 (.v 0), .bin 4 .shr .u32 (.v 0) (.l 8), .conv 5 .u8 (.v 4), .bin 6 .shr .u32 (.v 0) (.l 16), .conv 7 .u8 (.v 6), .bin 8 .shr .u32 (.v 0) (.l 24), .conv 9 .u8 (.v 8), .conv 10 .u64 (.v 0), .bin 11 .add .u64 (.v 10) (.l 1), .conv 12 .u8 (.v 11), .bin 13 .shr .u64 (.v 11) (.l 8), .conv 14 .u8 (.v 13), .bin 15 .shr .u64 (.v 11) (.l 16), .conv 16 .u8 (.v 15), .bin 17 .shr .u64 (.v 11) (.l 24), .conv 18 .u8 (.v 17), .bin 19 .shr .u64 (.v 11) (.l 32), .conv 20 .u8 (.v 19), .need 91 [], .call 21 91 [] 32, .need 94 [[.v 3, .v 5, .v 7, .v 9, .l 0, .l 0, .l 0, .l 0, .l 0, .l 0, .l 0, .l 0, .l 0, .l 0, .l 0, .l 0, .l 0, .l 0, .l 0, .l 0, .l 0, .l 0, .l 0, .l 0, .l 0, .l 0, .l 0, .l 0, .l 0, .l 0, .l 0, .l 0], [.v 21, .v 22, .v 23, .v 24, .v 25, .v 26, .v 27, .v 28, .v 29, .v 30, .v 31, .v 32, .v 33, .v 34, .v 35, .v 36, .v 37, .v 38, .v 39, .v 40, .v 41, .v 42, .v 43, .v 44, .v 45, .v 46, .v 47, .v 48, .v 49, .v 50, .v 51, .v 52]], .call 53 94 [[.v 3, .v 5, .v 7, .v 9, .l 0, .l 0, .l 0, .l 0, .l 0, .l 0, .l 0, .l 0, .l 0, .l 0, .l 0, .l 0, .l 0, .l 0, .l 0, .l 0, .l 0, .l 0, .l 0, .l 0, .l 0, .l 0, .l 0, .l 0, .l 0, .l 0, .l 0, .l 0], [.v 21, .v 22, .v 23, .v 24, .v 25, .v 26, .v 27, .v 28, .v 29, .v 30, .v 31, .v 32, .v 33, .v 34, .v 35, .v 36, .v 37, .v 38, .v 39, .v 40, .v 41, .v 42, .v 43, .v 44, .v 45, .v 46, .v 47, .v 48, .v 49, .v 50, .v 51, .v 52]] 33, .need 91 [], .call 86 91 [] 32, .need 92 [[.v 53, .v 54, .v 55, .v 56, .v 57, .v 58, .v 59, .v 60, .v 61, .v 62, .v 63, .v 64, .v 65, .v 66, .v 67, .v 68, .v 69, .v 70, .v 71, .v 72, .v 73, .v 74, .v 75, .v 76, .v 77, .v 78, .v 79, .v 80, .v 81, .v 82, .v 83, .v 84], [.v 86, .v 87, .v 88, .v 89, .v 90, .v 91, .v 92, .v 93, .v 94, .v 95, .v 96, .v 97, .v 98, .v 99, .v 100, .v 101, .v 102, .v 103, .v 104, .v 105, .v 106, .v 107, .v 108, .v 109, .v 110, .v 111, .v 112, .v 113, .v 114, .v 115, .v 116, .v 117]], .call 118 92 [[.v 53, .v 54, .v 55, .v 56, .v 57, .v 58, .v 59, .v 60, .v 61, .v 62, .v 63, .v 64, .v 65, .v 66, .v 67, .v 68, .v 69, .v 70, .v 71, .v 72, .v 73, .v 74, .v 75, .v 76, .v 77, .v 78, .v 79, .v 80, .v 81, .v 82, .v 83, .v 84], [.v 86, .v 87, .v 88, .v 89, .v 90, .v 91, .v 92, .v 93, .v 94, .v 95, .v 96, .v 97, .v 98, .v 99, .v 100, .v 101, .v 102, .v 103, .v 104, .v 105, .v 106, .v 107, .v 108, .v 109, .v 110, .v 111, .v 112, .v 113, .v 114, .v 115, .v 116, .v 117]] 33, .need 91 [], .call 151 91 [] 32, .need 94 [[.v 12, .v 14, .v 16, .v 18, .v 20, .l 0, .l 0, .l 0, .l 0, .l 0, .l 0, .l 0, .l 0, .l 0, .l 0, .l 0, .l 0, .l 0, .l 0, .l 0, .l 0, .l 0, .l 0, .l 0, .l 0, .l 0, .l 0, .l 0, .l 0, .l 0, .l 0, .l 0], [.v 151, .v 152, .v 153, .v 154, .v 155, .v 156, .v 157, .v 158, .v 159, .v 160, .v 161, .v 162, .v 163, .v 164, .v 165, .v 166, .v 167, .v 168, .v 169, .v 170, .v 171, .v 172, .v 173, .v 174, .v 175, .v 176, .v 177, .v 178, .v 179, .v 180, .v 181, .v 182]], .call 183 94 [[.v 12, .v 14, .v 16, .v 18, .v 20, .l 0, .l 0, .l 0, .l 0, .l 0, .l 0, .l 0, .l 0, .l 0, .l 0, .l 0, .l 0, .l 0, .l 0, .l 0, .l 0, .l 0, .l 0, .l 0, .l 0, .l 0, .l 0, .l 0, .l 0, .l 0, .l 0, .l 0], [.v 151, .v 152, .v 153, .v 154, .v 155, .v 156, .v 157, .v 158, .v 159, .v 160, .v 161, .v 162, .v 163, .v 164, .v 165, .v 166, .v 167, .v 168, .v 169, .v 170, .v 171, .v 172, .v 173, .v 174, .v 175, .v 176, .v 177, .v 178, .v 179, .v 180, .v 181, .v 182]] 33, .eqs 216 [(.v 118, .v 183), (.v 119, .v 184), (.v 120, .v 185), (.v 121, .v 186), (.v 122, .v 187), (.v 123, .v 188), (.v 124, .v 189), (.v 125, .v 190), (.v 126, .v 191), (.v 127, .v 192), (.v 128, .v 193), (.v 129, .v 194), (.v 130, .v 195), (.v 131, .v 196), (.v 132, .v 197), (.v 133, .v 198), (.v 134, .v 199), (.v 135, .v 200), (.v 136, .v 201), (.v 137, .v 202), (.v 138, .v 203), (.v 139, .v 204), (.v 140, .v 205), (.v 141, .v 206), (.v 142, .v 207), (.v 143, .v 208), (.v 144, .v 209), (.v 145, .v 210), (.v 146, .v 211), (.v 147, .v 212), (.v 148, .v 213), (.v 149, .v 214)]]) (refs := [.v 216]) (by kernel_rfl) fun ρ hρ hd => ?_
  have r0 : ρ 0 = n := hρ 0 (by decide)
  simp only [D_nil, D_add, D_sub, D_mul, D_and, D_or, D_xor, D_shl, D_shr, D_andNot, D_quo, D_rem, D_add_i64, D_sub_i64, D_mul_i64, D_add_u32, D_sub_u32, D_mul_u32, D_add_u8, D_sub_u8, D_mul_u8, D_eql, D_neq, D_lss, D_leq, D_gtr, D_geq, D_not, D_conv, D_eqs, D_call, D_cond, D_need, D_idx, D_sel, D_upd, D_shv, D_beq, List.map_cons, List.map_nil, Ref.den, r0] at hd
  obtain ⟨h1, h2, h3, h4, h5, h6, h7, h8, h9, h10, h11, h12, h13, h14, h15, h16, h17, h18, h19, h20, h21, h53, h86, h118, h151, h183, h216, -⟩ := hd
  rw [IntKind.wrap_u8] at h3 h5 h7 h9 h12 h14 h16 h18 h20
  rw [IntKind.wrap_u64] at h10
  have e4 : ρ 4 = n / 2 ^ 8 := u_shr 8 (by decide) h4 rfl
  have e6 : ρ 6 = n / 2 ^ 16 := u_shr 16 (by decide) h6 rfl
  have e8 : ρ 8 = n / 2 ^ 24 := u_shr 24 (by decide) h8 rfl
  have e13 : ρ 13 = ρ 11 / 2 ^ 8 := u_shr 8 (by decide) h13 rfl
  have e15 : ρ 15 = ρ 11 / 2 ^ 16 := u_shr 16 (by decide) h15 rfl
  have e17 : ρ 17 = ρ 11 / 2 ^ 24 := u_shr 24 (by decide) h17 rfl
  have e19 : ρ 19 = ρ 11 / 2 ^ 32 := u_shr 32 (by decide) h19 rfl
  have e11 : ρ 11 = n + 1 := by omega
  rw [e11] at e13 e15 e17 e19 h12
  have dA1 : Dig 256 [ρ 3, ρ 5, ρ 7, ρ 9, 0, 0, 0, 0, 0, 0, 0, 0, 0, 0, 0, 0, 0, 0, 0, 0, 0, 0, 0, 0, 0, 0, 0, 0, 0, 0, 0, 0] := dig_z (l := [ρ 3, ρ 5, ρ 7, ρ 9]) (by intro z hz; simp only [List.mem_cons, List.not_mem_nil, or_false] at hz; omega)
  have dA2 : Dig 256 [ρ 12, ρ 14, ρ 16, ρ 18, ρ 20, 0, 0, 0, 0, 0, 0, 0, 0, 0, 0, 0, 0, 0, 0, 0, 0, 0, 0, 0, 0, 0, 0, 0, 0, 0, 0, 0] := dig_z (l := [ρ 12, ρ 14, ρ 16, ρ 18, ρ 20]) (by intro z hz; simp only [List.mem_cons, List.not_mem_nil, or_false] at hz; omega)
  have v1 : dv 256 [ρ 3, ρ 5, ρ 7, ρ 9, 0, 0, 0, 0, 0, 0, 0, 0, 0, 0, 0, 0, 0, 0, 0, 0, 0, 0, 0, 0, 0, 0, 0, 0, 0, 0, 0, 0] = n := by simp only [dv]; omega
  have v2 : dv 256 [ρ 12, ρ 14, ρ 16, ρ 18, ρ 20, 0, 0, 0, 0, 0, 0, 0, 0, 0, 0, 0, 0, 0, 0, 0, 0, 0, 0, 0, 0, 0, 0, 0, 0, 0, 0, 0] = n + 1 := by simp only [dv]; omega
  have s1 : ρ 1 = 1 := h1 0 (by decide)
  have s21 : seg ρ 21 32 = pe BP := seg_of h21 (pe_len _)
  obtain ⟨s53, z53⟩ := two_of (pg_mul (n := [ρ 3, ρ 5, ρ 7, ρ 9, 0, 0, 0, 0, 0, 0, 0, 0, 0, 0, 0, 0, 0, 0, 0, 0, 0, 0, 0, 0, 0, 0, 0, 0, 0, 0, 0, 0]) rfl dA1 BP_on BP_cn) (fun i hi => by have : ρ (53 + i) = (pfns.g 94 [[ρ 3, ρ 5, ρ 7, ρ 9, 0, 0, 0, 0, 0, 0, 0, 0, 0, 0, 0, 0, 0, 0, 0, 0, 0, 0, 0, 0, 0, 0, 0, 0, 0, 0, 0, 0], seg ρ 21 32]).getD i 0 := h53 i hi; rwa [s21] at this)
  have s86 : seg ρ 86 32 = pe BP := seg_of h86 (pe_len _)
  obtain ⟨s118, z118⟩ := two_of (pg_add (nm_on BP_on _) (nm_cn _) BP_on BP_cn) (fun i hi => by have : ρ (118 + i) = (pfns.g 92 [seg ρ 53 32, seg ρ 86 32]).getD i 0 := h118 i hi; rwa [s53, s86] at this)
  have s151 : seg ρ 151 32 = pe BP := seg_of h151 (pe_len _)
  obtain ⟨s183, z183⟩ := two_of (pg_mul (n := [ρ 12, ρ 14, ρ 16, ρ 18, ρ 20, 0, 0, 0, 0, 0, 0, 0, 0, 0, 0, 0, 0, 0, 0, 0, 0, 0, 0, 0, 0, 0, 0, 0, 0, 0, 0, 0]) rfl dA2 BP_on BP_cn) (fun i hi => by have : ρ (183 + i) = (pfns.g 94 [[ρ 12, ρ 14, ρ 16, ρ 18, ρ 20, 0, 0, 0, 0, 0, 0, 0, 0, 0, 0, 0, 0, 0, 0, 0, 0, 0, 0, 0, 0, 0, 0, 0, 0, 0, 0, 0], seg ρ 151 32]).getD i 0 := h183 i hi; rwa [s151] at this)
  have q216 : ρ 216 = b2i (decide (seg ρ 118 32 = seg ρ 183 32)) := h216.trans (congrArg b2i eqs_lists)
  rw [v1] at s118
  rw [v2] at s183
  have k2 := not_bit h2 s1
  have key : seg ρ 118 32 = seg ρ 183 32 := by
    rw [s118, s183]
    obtain ⟨m, rfl⟩ := Int.eq_ofNat_of_zero_le hn.1
    rw [show ((m : Int) + 1).toNat = m + 1 by omega, show (m : Int).toNat = m by omega]; rfl
  rw [decide_eq_true key] at q216
  refine ⟨by simp only [G_nil, G_bin, G_cmp, G_not, G_conv, G_eqs, G_call, G_cond, G_need, G_idx, G_sel, G_upd, G_shv, G_beq, List.map_cons, List.map_nil, Ref.den]; exact ⟨trivial, k2, trivial, trivial, trivial, trivial, trivial, trivial, trivial⟩, ?_⟩
  show [ρ 216] = [1]
  rw [q216]; rfl
#print axioms okStep
end Go.Proofs.Ytfobnajgnnccmaa
namespace Go.Proofs.Ytfobnajgnnccmaa.pointStep
open Go.RowKit Go.Bx Go.Sx
theorem walk (a : Int) (ha : (0 ≤ a ∧ a < 4294967296)) (w : World) :
    Calls Try.prog 3 #[.int .u32 a] w fun e w' => e = .returned (.bool true) ∧ Below w.heap.size w w' :=
  CtrOK.calls okStep (fn := Try.f3) (body := (Try.f3).body.getD .skip) (by kernel_rfl) (by kernel_rfl) (by kernel_rfl) rfl (xs := [[a]]) rfl trivial ⟨arg_int ⟨by simp only [lo]; omega, by simp only [hi]; omega⟩, trivial⟩
end Go.Proofs.Ytfobnajgnnccmaa.pointStep
