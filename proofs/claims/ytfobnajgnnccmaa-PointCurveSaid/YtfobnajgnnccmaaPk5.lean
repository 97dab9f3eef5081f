/- Points of the curve: what the exported functions make of points; awake. No condition. -/
import Derived.Test.YtfobnajgnnccmaaPk4
namespace Go.Bx
/-- A point in bytes. -/
def pe (p : Int × Int) : List Int := dg 256 32 (enc p)
theorem pe_len (p : Int × Int) : (pe p).length = 32 := dg_len _ _ _
theorem pe_dv {p : Int × Int} (h : cn p) : dv 256 (pe p) = enc p := by
  obtain ⟨_, _, h0, h1⟩ := enc_div h
  exact dv_dg_of (by decide) h0 (by have : WW = 256 ^ 32 := by decide
                                    omega)
theorem pe_pz : pe pz = [1, 0, 0, 0, 0, 0, 0, 0, 0, 0, 0, 0, 0, 0, 0, 0, 0, 0, 0, 0, 0, 0, 0, 0, 0, 0, 0, 0, 0, 0, 0, 0] := by decide
theorem Rep.neg {q : Q4} {p : Int × Int} (h : Rep q p) (hz : q.z = 1) : Rep ⟨minZ 0 q.x, q.y, 1, timesZ (minZ 0 q.x) q.y⟩ (pneg p) := by
  have hx := h.x
  have hy := h.y
  rw [hz, Int.mul_one] at hx hy
  have e1 : minZ 0 q.x % PP = ((0 - p.1) % PP) % PP := by rw [minZ_mod, Int.emod_emod, sub_congP rfl hx]
  refine ⟨not_one, ?_, ?_, ?_, pneg_on h.on, pneg_cn h.cn⟩
  · simp only [Int.mul_one, pneg]; exact e1
  · simp only [Int.mul_one, pneg]; exact hy
  · simp only [Int.mul_one, pneg]; exact ti e1 hy
end Go.Bx
namespace Go.Proofs.Ytfobnajgnnccmaa
open Go.RowKit Go.Bx Go.Sx
set_option linter.unusedSimpArgs false
set_option linter.unusedVariables false
theorem pg_add {p q : Int × Int} (op : onC p) (cp : cn p) (oq : onC q) (cq : cn q) : pfns.g 92 [pe p, pe q] = pe (pa p q) ++ [0] := by
  rw [show pfns.g 92 [pe p, pe q] = (if decOK (dv 256 (pe p)) ∧ decOK (dv 256 (pe q)) then dg 256 32 (encQ (plusQ (decQ (dv 256 (pe p))) (decQ (dv 256 (pe q))))) ++ [0] else dg 256 32 0 ++ [3]) from rfl, pe_dv cp, pe_dv cq]
  obtain ⟨d1, r1⟩ := dec_enc op cp
  obtain ⟨d2, r2⟩ := dec_enc oq cq
  rw [if_pos ⟨d1, d2⟩, Rep.enc (r1.plus r2)]; rfl
theorem pg_mul {n : List Int} (ln : n.length = 32) (dn : Dig 256 n) {p : Int × Int} (op : onC p) (cp : cn p) : pfns.g 94 [n, pe p] = pe (nm p (dv 256 n).toNat) ++ [0] := by
  rw [show pfns.g 94 [n, pe p] = (if decOK (dv 256 (pe p)) then dg 256 32 (encQ (mulQ (decQ (dv 256 (pe p))) (dv 256 n) 256)) ++ [0] else dg 256 32 0 ++ [3]) from rfl, pe_dv cp]
  obtain ⟨d1, r1⟩ := dec_enc op cp
  have b := dv_bound (by decide : (0 : Int) < 256) dn
  rw [ln] at b
  obtain ⟨N, hN⟩ := Int.eq_ofNat_of_zero_le b.1
  have hb : N < 2 ^ 256 := by
    have e : (256 : Int) ^ 32 = ((2 ^ 256 : Nat) : Int) := by decide
    rw [hN, e] at b
    exact Int.ofNat_lt.1 b.2
  rw [if_pos d1, hN, Rep.enc (r1.mulAll hb)]; rfl
theorem pg_neg {p : Int × Int} (op : onC p) (cp : cn p) : pfns.g 93 [pe p] = pe (pneg p) ++ [0] := by
  rw [show pfns.g 93 [pe p] = (if decOK (dv 256 (pe p)) then dg 256 32 (encQ (negQ (decQ (dv 256 (pe p))))) ++ [0] else dg 256 32 0 ++ [3]) from rfl, pe_dv cp]
  obtain ⟨d1, r1⟩ := dec_enc op cp
  rw [if_pos d1, show negQ (decQ (enc p)) = ⟨minZ 0 (decQ (enc p)).x, (decQ (enc p)).y, 1, timesZ (minZ 0 (decQ (enc p)).x) (decQ (enc p)).y⟩ from rfl, Rep.enc (r1.neg rfl)]; rfl
theorem pg_at {p : Int × Int} (op : onC p) (cp : cn p) : pfns.g 95 [pe p] = dg 256 32 p.1 ++ (dg 256 32 p.2 ++ [0]) := by
  rw [show pfns.g 95 [pe p] = (if decOK (dv 256 (pe p)) then dg 256 32 (decX (dv 256 (pe p)) % PP) ++ (dg 256 32 (dv 256 (pe p) % H255) ++ [0]) else dg 256 32 0 ++ (dg 256 32 0 ++ [3])) from rfl, pe_dv cp]
  obtain ⟨d1, r1⟩ := dec_enc op cp
  have hx : decX (enc p) % PP = p.1 := by
    have := r1.x
    simp only [decQ, Int.mul_one] at this
    rw [this, Int.emod_eq_of_lt cp.1.1 cp.1.2]
  rw [if_pos d1, hx, (enc_div cp).1]
theorem pg_good (A : List Int) : pfns.g 88 [A] = [b2i (decide (decOK (dv 256 A)))] := rfl
theorem two_of {ρ : Nat → Int} {n : Nat} {g : List Int} {p : Int × Int} (hg : g = pe p ++ [0]) (h : ∀ i, i < 33 → ρ (n + i) = g.getD i 0) : seg ρ n 32 = pe p ∧ ρ (n + 32) = 0 := by
  rw [hg] at h
  obtain ⟨h1, h2⟩ := splitN (R := [0]) (pe_len p) h
  exact ⟨h1, h2 0 (by decide)⟩
def cHex : Ctr := ⟨37, 110, [.row .u8 26 32], [.str [53, 56, 54, 54, 54, 54, 54, 54, 54, 54, 54, 54, 54, 54, 54, 54, 54, 54, 54, 54, 54, 54, 54, 54, 54, 54, 54, 54, 54, 54, 54, 54, 54, 54, 54, 54, 54, 54, 54, 54, 54, 54, 54, 54, 54, 54, 54, 54, 54, 54, 54, 54, 54, 54, 54, 54, 54, 54, 54, 54, 54, 54, 54, 54]]⟩
theorem okHex : CtrOK Try.prog pfns cHex := by
  intro w vs xs ha hp
  obtain ⟨v, a, rfl, rfl, ⟨la, ⟨g, hv, hg⟩, ia⟩⟩ := open1 ha
  have hp : a = dg 256 32 (enc BP) := hp
  obtain ⟨l, hl⟩ : ∃ l : List UInt8, l = [88, 102, 102, 102, 102, 102, 102, 102, 102, 102, 102, 102, 102, 102, 102, 102, 102, 102, 102, 102, 102, 102, 102, 102, 102, 102, 102, 102, 102, 102, 102, 102] := ⟨_, rfl⟩
  have el : a.map (Value.int .u8) = bvs l := by rw [hp, hl, show dg 256 32 (enc BP) = [88, 102, 102, 102, 102, 102, 102, 102, 102, 102, 102, 102, 102, 102, 102, 102, 102, 102, 102, 102, 102, 102, 102, 102, 102, 102, 102, 102, 102, 102, 102, 102] from by decide]; rfl
  have ll : l.length = 32 := by rw [hl]; rfl
  have hs : Sl w 1 v l.length (bvs l) := by
    rw [el] at hg
    refine ⟨by rw [bvs_length, Nat.mul_one], some ⟨g, 0, none⟩, 32, by rw [hv, ll], by omega, by decide, (by intro h; cases h), .inr ⟨g, 0, rfl, (Array.getElem?_eq_some_iff.1 hg).1, fun j u hj => ?_⟩⟩
    rw [cell_of_row w g _ _ _ _ hg, Nat.zero_add]; simpa using hj
  refine .inl ⟨Try.f37, _, by kernel_rfl, by kernel_rfl, rfl, (rhex_any v l w hs ⟨by rw [ll]; decide⟩).mono ?_⟩
  rintro e w' ⟨rfl, hb⟩
  refine ⟨_, rfl, ?_, ⟨trivial, trivial⟩, hb⟩
  show Value.string ⟨(hexB l).toArray⟩ = Value.string ⟨([53, 56, 54, 54, 54, 54, 54, 54, 54, 54, 54, 54, 54, 54, 54, 54, 54, 54, 54, 54, 54, 54, 54, 54, 54, 54, 54, 54, 54, 54, 54, 54, 54, 54, 54, 54, 54, 54, 54, 54, 54, 54, 54, 54, 54, 54, 54, 54, 54, 54, 54, 54, 54, 54, 54, 54, 54, 54, 54, 54, 54, 54, 54, 54] : List UInt8).toArray⟩
  rw [hl]; rfl
def PT4 : List Ctr := cHex :: cPGood :: cPZero :: cPBase :: cPAdd :: cPMul :: cPAt :: cPNeg :: []
theorem okPT4 : ∀ c ∈ PT4, CtrOK Try.prog pfns c := by
  intro c hc
  simp only [PT4, List.mem_cons, List.not_mem_nil, or_false] at hc
  rcases hc with rfl | rfl | rfl | rfl | rfl | rfl | rfl | rfl
  · exact okHex
  · exact okPGood
  · exact okPZero
  · exact okPBase
  · exact okPAdd
  · exact okPMul
  · exact okPAt
  · exact okPNeg
def cPAwake : Ctr := ⟨11, 111, [], [.bool]⟩
theorem okPAwake : CtrOK Try.prog pfns cPAwake := by
  refine CtrOK.of okPT4 mixed (lf := 300) (d := 5) rfl fun w vs xs ha _ => ?_
  rw [show pfns.g cPAwake.j xs = [1] from rfl]
  refine Go.Sx.Way.of (dec := [true,true,true,true,true]) (fs := [.need 91 [], .call 0 91 [] 32, .need 94 [[.l 1, .l 0, .l 0, .l 0, .l 0, .l 0, .l 0, .l 0, .l 0, .l 0, .l 0, .l 0, .l 0, .l 0, .l 0, .l 0, .l 0, .l 0, .l 0, .l 0, .l 0, .l 0, .l 0, .l 0, .l 0, .l 0, .l 0, .l 0, .l 0, .l 0, .l 0, .l 0], [.v 0, .v 1, .v 2, .v 3, .v 4, .v 5, .v 6, .v 7, .v 8, .v 9, .v 10, .v 11, .v 12, .v 13, .v 14, .v 15, .v 16, .v 17, .v 18, .v 19, .v 20, .v 21, .v 22, .v 23, .v 24, .v 25, .v 26, .v 27, .v 28, .v 29, .v 30, .v 31]], .call 32 94 [[.l 1, .l 0, .l 0, .l 0, .l 0, .l 0, .l 0, .l 0, .l 0, .l 0, .l 0, .l 0, .l 0, .l 0, .l 0, .l 0, .l 0, .l 0, .l 0, .l 0, .l 0, .l 0, .l 0, .l 0, .l 0, .l 0, .l 0, .l 0, .l 0, .l 0, .l 0, .l 0], [.v 0, .v 1, .v 2, .v 3, .v 4, .v 5, .v 6, .v 7, .v 8, .v 9, .v 10, .v 11, .v 12, .v 13, .v 14, .v 15, .v 16, .v 17, .v 18, .v 19, .v 20, .v 21, .v 22, .v 23, .v 24, .v 25, .v 26, .v 27, .v 28, .v 29, .v 30, .v 31]] 33, .need 89 [], .call 65 89 [] 32, .need 92 [[.v 0, .v 1, .v 2, .v 3, .v 4, .v 5, .v 6, .v 7, .v 8, .v 9, .v 10, .v 11, .v 12, .v 13, .v 14, .v 15, .v 16, .v 17, .v 18, .v 19, .v 20, .v 21, .v 22, .v 23, .v 24, .v 25, .v 26, .v 27, .v 28, .v 29, .v 30, .v 31], [.v 65, .v 66, .v 67, .v 68, .v 69, .v 70, .v 71, .v 72, .v 73, .v 74, .v 75, .v 76, .v 77, .v 78, .v 79, .v 80, .v 81, .v 82, .v 83, .v 84, .v 85, .v 86, .v 87, .v 88, .v 89, .v 90, .v 91, .v 92, .v 93, .v 94, .v 95, .v 96]], .call 97 92 [[.v 0, .v 1, .v 2, .v 3, .v 4, .v 5, .v 6, .v 7, .v 8, .v 9, .v 10, .v 11, .v 12, .v 13, .v 14, .v 15, .v 16, .v 17, .v 18, .v 19, .v 20, .v 21, .v 22, .v 23, .v 24, .v 25, .v 26, .v 27, .v 28, .v 29, .v 30, .v 31], [.v 65, .v 66, .v 67, .v 68, .v 69, .v 70, .v 71, .v 72, .v 73, .v 74, .v 75, .v 76, .v 77, .v 78, .v 79, .v 80, .v 81, .v 82, .v 83, .v 84, .v 85, .v 86, .v 87, .v 88, .v 89, .v 90, .v 91, .v 92, .v 93, .v 94, .v 95, .v 96]] 33, .need 110 [[.v 0, .v 1, .v 2, .v 3, .v 4, .v 5, .v 6, .v 7, .v 8, .v 9, .v 10, .v 11, .v 12, .v 13, .v 14, .v 15, .v 16, .v 17, .v 18, .v 19, .v 20, .v 21, .v 22, .v 23, .v 24, .v 25, .v 26, .v 27, .v 28, .v 29, .v 30, .v 31]], .call 130 110 [[.v 0, .v 1, .v 2, .v 3, .v 4, .v 5, .v 6, .v 7, .v 8, .v 9, .v 10, .v 11, .v 12, .v 13, .v 14, .v 15, .v 16, .v 17, .v 18, .v 19, .v 20, .v 21, .v 22, .v 23, .v 24, .v 25, .v 26, .v 27, .v 28, .v 29, .v 30, .v 31]] 0, .cmp 130 .eql (.v 64) (.l 0), .cond 130 true, .eqs 131 [(.v 32, .v 0), (.v 33, .v 1), (.v 34, .v 2), (.v 35, .v 3), (.v 36, .v 4), (.v 37, .v 5), (.v 38, .v 6), (.v 39, .v 7), (.v 40, .v 8), (.v 41, .v 9), (.v 42, .v 10), (.v 43, .v 11), (.v 44, .v 12), (.v 45, .v 13), (.v 46, .v 14), (.v 47, .v 15), (.v 48, .v 16), (.v 49, .v 17), (.v 50, .v 18), (.v 51, .v 19), (.v 52, .v 20), (.v 53, .v 21), (.v 54, .v 22), (.v 55, .v 23), (.v 56, .v 24), (.v 57, .v 25), (.v 58, .v 26), (.v 59, .v 27), (.v 60, .v 28), (.v 61, .v 29), (.v 62, .v 30), (.v 63, .v 31)], .cond 131 true, .cmp 132 .eql (.v 129) (.l 0), .cond 132 true, .eqs 133 [(.v 97, .v 0), (.v 98, .v 1), (.v 99, .v 2), (.v 100, .v 3), (.v 101, .v 4), (.v 102, .v 5), (.v 103, .v 6), (.v 104, .v 7), (.v 105, .v 8), (.v 106, .v 9), (.v 107, .v 10), (.v 108, .v 11), (.v 109, .v 12), (.v 110, .v 13), (.v 111, .v 14), (.v 112, .v 15), (.v 113, .v 16), (.v 114, .v 17), (.v 115, .v 18), (.v 116, .v 19), (.v 117, .v 20), (.v 118, .v 21), (.v 119, .v 22), (.v 120, .v 23), (.v 121, .v 24), (.v 122, .v 25), (.v 123, .v 26), (.v 124, .v 27), (.v 125, .v 28), (.v 126, .v 29), (.v 127, .v 30), (.v 128, .v 31)], .cond 133 true, .need 88 [[.v 0, .v 1, .v 2, .v 3, .v 4, .v 5, .v 6, .v 7, .v 8, .v 9, .v 10, .v 11, .v 12, .v 13, .v 14, .v 15, .v 16, .v 17, .v 18, .v 19, .v 20, .v 21, .v 22, .v 23, .v 24, .v 25, .v 26, .v 27, .v 28, .v 29, .v 30, .v 31]], .call 134 88 [[.v 0, .v 1, .v 2, .v 3, .v 4, .v 5, .v 6, .v 7, .v 8, .v 9, .v 10, .v 11, .v 12, .v 13, .v 14, .v 15, .v 16, .v 17, .v 18, .v 19, .v 20, .v 21, .v 22, .v 23, .v 24, .v 25, .v 26, .v 27, .v 28, .v 29, .v 30, .v 31]] 1, .cond 134 true, .need 89 [], .call 135 89 [] 32, .eqs 167 [(.v 135, .l 1), (.v 136, .l 0), (.v 137, .l 0), (.v 138, .l 0), (.v 139, .l 0), (.v 140, .l 0), (.v 141, .l 0), (.v 142, .l 0), (.v 143, .l 0), (.v 144, .l 0), (.v 145, .l 0), (.v 146, .l 0), (.v 147, .l 0), (.v 148, .l 0), (.v 149, .l 0), (.v 150, .l 0), (.v 151, .l 0), (.v 152, .l 0), (.v 153, .l 0), (.v 154, .l 0), (.v 155, .l 0), (.v 156, .l 0), (.v 157, .l 0), (.v 158, .l 0), (.v 159, .l 0), (.v 160, .l 0), (.v 161, .l 0), (.v 162, .l 0), (.v 163, .l 0), (.v 164, .l 0), (.v 165, .l 0), (.v 166, .l 0)]]) (refs := [.v 167]) (by kernel_rfl) fun ρ hρ hd => ?_
  simp only [D_nil, D_add, D_sub, D_mul, D_and, D_or, D_xor, D_shl, D_shr, D_andNot, D_quo, D_rem, D_add_i64, D_sub_i64, D_mul_i64, D_add_u32, D_sub_u32, D_mul_u32, D_add_u8, D_sub_u8, D_mul_u8, D_eql, D_neq, D_lss, D_leq, D_gtr, D_geq, D_not, D_conv, D_eqs, D_call, D_cond, D_need, D_idx, D_sel, D_upd, D_shv, D_beq, List.map_cons, List.map_nil, Ref.den] at hd
  obtain ⟨h0, h32, h65, h97, h110, h130, h131, h132, h133, h134, h135, h167, -⟩ := hd
  have s0 : seg ρ 0 32 = pe BP := seg_of h0 (pe_len _)
  have s65 : seg ρ 65 32 = pe pz := (seg_of (g := dg 256 32 1) h65 (dg_len _ _ _)).trans (by decide)
  have s135 : seg ρ 135 32 = pe pz := (seg_of (g := dg 256 32 1) h135 (dg_len _ _ _)).trans (by decide)
  have d1 : Dig 256 [1, 0, 0, 0, 0, 0, 0, 0, 0, 0, 0, 0, 0, 0, 0, 0, 0, 0, 0, 0, 0, 0, 0, 0, 0, 0, 0, 0, 0, 0, 0, 0] := by rw [← pe_pz]; exact dg_dig (by decide) _ _
  obtain ⟨s32, k64⟩ := two_of (pg_mul (n := [1, 0, 0, 0, 0, 0, 0, 0, 0, 0, 0, 0, 0, 0, 0, 0, 0, 0, 0, 0, 0, 0, 0, 0, 0, 0, 0, 0, 0, 0, 0, 0]) rfl d1 BP_on BP_cn) (fun i hi => by have := h32 i hi; rwa [show [ρ 0, ρ 1, ρ 2, ρ 3, ρ 4, ρ 5, ρ 6, ρ 7, ρ 8, ρ 9, ρ 10, ρ 11, ρ 12, ρ 13, ρ 14, ρ 15, ρ 16, ρ 17, ρ 18, ρ 19, ρ 20, ρ 21, ρ 22, ρ 23, ρ 24, ρ 25, ρ 26, ρ 27, ρ 28, ρ 29, ρ 30, ρ 31] = pe BP from s0] at this)
  rw [show (dv 256 [1, 0, 0, 0, 0, 0, 0, 0, 0, 0, 0, 0, 0, 0, 0, 0, 0, 0, 0, 0, 0, 0, 0, 0, 0, 0, 0, 0, 0, 0, 0, 0]).toNat = 1 by decide, nm_one BP_on BP_cn] at s32
  obtain ⟨s97, k129⟩ := two_of (pg_add BP_on BP_cn pz_on pz_cn) (fun i hi => by have : ρ (97 + i) = (pfns.g 92 [seg ρ 0 32, seg ρ 65 32]).getD i 0 := h97 i hi; rwa [s0, s65] at this)
  rw [pa_comm, pa_zero BP_on BP_cn] at s97
  have k130 := bit_true h130 (decide_eq_true k64)
  have q131 : ρ 131 = b2i (decide (seg ρ 32 32 = seg ρ 0 32)) := h131.trans (congrArg b2i eqs_lists)
  have k131 := bit_true q131 (decide_eq_true (s32.trans s0.symm))
  have k132 := bit_true h132 (decide_eq_true k129)
  have q133 : ρ 133 = b2i (decide (seg ρ 97 32 = seg ρ 0 32)) := h133.trans (congrArg b2i eqs_lists)
  have k133 := bit_true q133 (decide_eq_true (s97.trans s0.symm))
  have s134 : ρ 134 = b2i (decide (decOK (dv 256 (seg ρ 0 32)))) := h134 0 (by decide)
  rw [s0, pe_dv BP_cn] at s134
  have k134 := bit_true s134 (decide_eq_true (dec_enc BP_on BP_cn).1)
  have q167 : ρ 167 = b2i (decide (seg ρ 135 32 = [1, 0, 0, 0, 0, 0, 0, 0, 0, 0, 0, 0, 0, 0, 0, 0, 0, 0, 0, 0, 0, 0, 0, 0, 0, 0, 0, 0, 0, 0, 0, 0])) := h167.trans (congrArg b2i eqs_lists)
  rw [s135, pe_pz, decide_eq_true rfl] at q167
  refine ⟨?_, ?_⟩
  · simp only [G_nil, G_bin, G_cmp, G_not, G_conv, G_eqs, G_call, G_cond, G_need, G_idx, G_sel, G_upd, G_shv, G_beq, List.map_cons, List.map_nil, Ref.den]
    refine ⟨trivial, trivial, trivial, trivial, ?_, k130, k131, k132, k133, trivial, k134, trivial, trivial⟩
    exact s0
  · show [ρ 167] = [1]
    rw [q167]; rfl
#print axioms okPAwake
end Go.Proofs.Ytfobnajgnnccmaa
