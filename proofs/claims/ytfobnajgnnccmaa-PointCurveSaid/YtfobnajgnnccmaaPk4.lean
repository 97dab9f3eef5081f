/- Points of the curve: what is shown of the exported functions, and of the base's digits. No condition. -/
import Derived.Test.YtfobnajgnnccmaaPk3
import Derived.Test.YtfobnajgnnccmaaHexR
namespace Go.Proofs.Ytfobnajgnnccmaa
open Go.RowKit Go.Bx Go.Sx
set_option linter.unusedSimpArgs false
set_option linter.unusedVariables false
def PT3 : List Ctr := cSTimes :: cSWord :: cSRead :: PT2
theorem okPT3 : ∀ c ∈ PT3, CtrOK Try.prog pfns c := by
  intro c hc
  rcases List.mem_cons.1 hc with rfl | hc
  · exact okSTimes
  rcases List.mem_cons.1 hc with rfl | hc
  · exact okSWord
  rcases List.mem_cons.1 hc with rfl | hc
  · exact okSRead
  · exact okPT2 c hc
theorem splitN {ρ : Nat → Int} {n m : Nat} {L R : List Int} (hl : L.length = m) (h : ∀ i, i < m + R.length → ρ (n + i) = (L ++ R).getD i 0) : seg ρ n m = L ∧ ∀ i, i < R.length → ρ (n + m + i) = R.getD i 0 := by
  refine ⟨seg_of (fun i hi => by
    rw [h i (by omega)]; simp only [List.getD_eq_getElem?_getD]; rw [List.getElem?_append_left (by omega)]) hl, fun i hi => ?_⟩
  rw [Nat.add_assoc, h (m + i) (by omega)]
  simp only [List.getD_eq_getElem?_getD]
  rw [List.getElem?_append_right (by omega), hl, Nat.add_sub_cancel_left]
theorem read_yes {ρ : Nat → Int} {n : Nat} {A : Int} (h : ∀ i, i < 17 → ρ (n + i) = (if decOK A then qL (decQ A) ++ [1] else List.replicate 16 0 ++ [0]).getD i 0) (c : decOK A) : seg ρ n 16 = qL (decQ A) ∧ ρ (n + 16) = 1 := by
  rw [if_pos c] at h
  obtain ⟨h1, h2⟩ := splitN (R := [1]) (qL_len (decQ A)) h
  exact ⟨h1, h2 0 (by decide)⟩
theorem read_no {ρ : Nat → Int} {n : Nat} {A : Int} (h : ∀ i, i < 17 → ρ (n + i) = (if decOK A then qL (decQ A) ++ [1] else List.replicate 16 0 ++ [0]).getD i 0) (c : ¬ decOK A) : ρ (n + 16) = 0 := by
  rw [if_neg c] at h
  exact h 16 (by decide)
theorem z33 : List.replicate 32 0 ++ [3] = dg 256 32 0 ++ [3] := by decide
theorem z65 : List.replicate 32 0 ++ (List.replicate 32 0 ++ [3]) = dg 256 32 0 ++ (dg 256 32 0 ++ [3]) := by decide
def cPGood : Ctr := ⟨23, 88, [.arr .u8 32], [.bool]⟩
def cPZero : Ctr := ⟨32, 89, [], [.arr .u8 32]⟩
def cPBase : Ctr := ⟨14, 91, [], [.arr .u8 32]⟩
def cPAdd : Ctr := ⟨15, 92, [.arr .u8 32, .arr .u8 32], [.arr .u8 32, .int .i64]⟩
def cPNeg : Ctr := ⟨17, 93, [.arr .u8 32], [.arr .u8 32, .int .i64]⟩
def cPMul : Ctr := ⟨19, 94, [.arr .u8 32, .arr .u8 32], [.arr .u8 32, .int .i64]⟩
def cPAt : Ctr := ⟨21, 95, [.arr .u8 32], [.arr .u8 32, .arr .u8 32, .int .i64]⟩
theorem okPGood : CtrOK Try.prog pfns cPGood := by
  refine CtrOK.of okPT3 mixed (lf := 300) (d := 5) rfl fun w vs xs ha _ => ?_
  obtain ⟨v, a, rfl, rfl, ⟨la, -, ia⟩⟩ := open1 ha
  rw [show pfns.g cPGood.j [a] = [b2i (decide (decOK (dv 256 a)))] from rfl]
  refine Go.Sx.Way.of (dec := []) (fs := [.need 87 [[.v 0, .v 1, .v 2, .v 3, .v 4, .v 5, .v 6, .v 7, .v 8, .v 9, .v 10, .v 11, .v 12, .v 13, .v 14, .v 15, .v 16, .v 17, .v 18, .v 19, .v 20, .v 21, .v 22, .v 23, .v 24, .v 25, .v 26, .v 27, .v 28, .v 29, .v 30, .v 31]], .call 32 87 [[.v 0, .v 1, .v 2, .v 3, .v 4, .v 5, .v 6, .v 7, .v 8, .v 9, .v 10, .v 11, .v 12, .v 13, .v 14, .v 15, .v 16, .v 17, .v 18, .v 19, .v 20, .v 21, .v 22, .v 23, .v 24, .v 25, .v 26, .v 27, .v 28, .v 29, .v 30, .v 31]] 17]) (refs := [.v 48]) (by kernel_rfl) fun ρ hρ hd => ?_
  have ea := seg0 la hρ
  simp only [D_nil, D_add, D_sub, D_mul, D_and, D_or, D_xor, D_shl, D_shr, D_andNot, D_quo, D_rem, D_add_i64, D_sub_i64, D_mul_i64, D_add_u32, D_sub_u32, D_mul_u32, D_add_u8, D_sub_u8, D_mul_u8, D_eql, D_neq, D_lss, D_leq, D_gtr, D_geq, D_not, D_conv, D_eqs, D_call, D_cond, D_need, D_idx, D_sel, D_upd, D_shv, D_beq, List.map_cons, List.map_nil, Ref.den] at hd
  obtain ⟨h32, -⟩ := hd
  have h32 : ∀ i, i < 17 → ρ (32 + i) = (if decOK (dv 256 (seg ρ 0 32)) then qL (decQ (dv 256 (seg ρ 0 32))) ++ [1] else List.replicate 16 0 ++ [0]).getD i 0 := h32
  rw [ea] at h32
  refine ⟨by simp only [G_nil, G_bin, G_cmp, G_not, G_conv, G_eqs, G_call, G_cond, G_need, G_idx, G_sel, G_upd, G_shv, G_beq, List.map_cons, List.map_nil, Ref.den]; exact ⟨trivial, trivial⟩, ?_⟩
  show [ρ 48] = _
  by_cases c : decOK (dv 256 a)
  · rw [decide_eq_true c, (read_yes h32 c).2]; rfl
  · rw [decide_eq_false c, (read_no h32 c)]; rfl
theorem Rep.enc {q : Q4} {p : Int × Int} (h : Rep q p) : encQ q = Go.Bx.enc p := by
  unfold encQ Go.Bx.enc; rw [h.aff.1, h.aff.2]
theorem Rep.at_ {p : Int × Int} {X Y T : Int} (hX : X % PP = p.1 % PP) (hY : Y % PP = p.2 % PP) (hT : T % PP = (p.1 * p.2) % PP) (on : onC p) (c : cn p) : Rep ⟨X, Y, 1, T⟩ p :=
  ⟨not_one, by simp only [Int.mul_one]; exact hX, by simp only [Int.mul_one]; exact hY, by simp only [Int.mul_one]; exact hT, on, c⟩
theorem okPZero : CtrOK Try.prog pfns cPZero := by
  refine CtrOK.of okPT3 mixed (lf := 300) (d := 5) rfl fun w vs xs ha _ => ?_
  rw [show pfns.g cPZero.j xs = dg 256 32 1 from rfl]
  refine Go.Sx.Way.of (dec := []) (fs := [.need 86 [[.l 0, .l 0, .l 0, .l 0, .l 1, .l 0, .l 0, .l 0, .l 1, .l 0, .l 0, .l 0, .l 0, .l 0, .l 0, .l 0]], .call 0 86 [[.l 0, .l 0, .l 0, .l 0, .l 1, .l 0, .l 0, .l 0, .l 1, .l 0, .l 0, .l 0, .l 0, .l 0, .l 0, .l 0]] 32]) (refs := [.v 0, .v 1, .v 2, .v 3, .v 4, .v 5, .v 6, .v 7, .v 8, .v 9, .v 10, .v 11, .v 12, .v 13, .v 14, .v 15, .v 16, .v 17, .v 18, .v 19, .v 20, .v 21, .v 22, .v 23, .v 24, .v 25, .v 26, .v 27, .v 28, .v 29, .v 30, .v 31]) (by kernel_rfl) fun ρ hρ hd => ?_
  simp only [D_nil, D_add, D_sub, D_mul, D_and, D_or, D_xor, D_shl, D_shr, D_andNot, D_quo, D_rem, D_add_i64, D_sub_i64, D_mul_i64, D_add_u32, D_sub_u32, D_mul_u32, D_add_u8, D_sub_u8, D_mul_u8, D_eql, D_neq, D_lss, D_leq, D_gtr, D_geq, D_not, D_conv, D_eqs, D_call, D_cond, D_need, D_idx, D_sel, D_upd, D_shv, D_beq, List.map_cons, List.map_nil, Ref.den] at hd
  obtain ⟨h0, -⟩ := hd
  have s0 : seg ρ 0 32 = dg 256 32 (encQ (Lq [0, 0, 0, 0, 1, 0, 0, 0, 1, 0, 0, 0, 0, 0, 0, 0])) := seg_of h0 (dg_len _ _ _)
  rw [show Lq [0, 0, 0, 0, 1, 0, 0, 0, 1, 0, 0, 0, 0, 0, 0, 0] = ⟨0, 1, 1, 0⟩ from by simp only [Lq, List.take, List.drop, dv, MM]; rfl, Rep.enc Rep.zero] at s0
  refine ⟨by simp only [G_nil, G_bin, G_cmp, G_not, G_conv, G_eqs, G_call, G_cond, G_need, G_idx, G_sel, G_upd, G_shv, G_beq, List.map_cons, List.map_nil, Ref.den]; exact ⟨trivial, trivial⟩, ?_⟩
  exact s0.trans (congrArg _ (by decide))
theorem okPBase : CtrOK Try.prog pfns cPBase := by
  refine CtrOK.of okPT3 mixed (lf := 300) (d := 5) rfl fun w vs xs ha _ => ?_
  rw [show pfns.g cPBase.j xs = dg 256 32 (enc BP) from rfl]
  refine Go.Sx.Way.of (dec := []) (fs := [.need 18 [[.l 14507833142362363162, .l 7578651490590762930, .l 13881468655802702940, .l 2407515759118799870], [.l 7378697629483820632, .l 7378697629483820646, .l 7378697629483820646, .l 7378697629483820646]], .call 0 18 [[.l 14507833142362363162, .l 7578651490590762930, .l 13881468655802702940, .l 2407515759118799870], [.l 7378697629483820632, .l 7378697629483820646, .l 7378697629483820646, .l 7378697629483820646]] 4, .need 86 [[.l 14507833142362363162, .l 7578651490590762930, .l 13881468655802702940, .l 2407515759118799870, .l 7378697629483820632, .l 7378697629483820646, .l 7378697629483820646, .l 7378697629483820646, .l 1, .l 0, .l 0, .l 0, .v 0, .v 1, .v 2, .v 3]], .call 4 86 [[.l 14507833142362363162, .l 7578651490590762930, .l 13881468655802702940, .l 2407515759118799870, .l 7378697629483820632, .l 7378697629483820646, .l 7378697629483820646, .l 7378697629483820646, .l 1, .l 0, .l 0, .l 0, .v 0, .v 1, .v 2, .v 3]] 32]) (refs := [.v 4, .v 5, .v 6, .v 7, .v 8, .v 9, .v 10, .v 11, .v 12, .v 13, .v 14, .v 15, .v 16, .v 17, .v 18, .v 19, .v 20, .v 21, .v 22, .v 23, .v 24, .v 25, .v 26, .v 27, .v 28, .v 29, .v 30, .v 31, .v 32, .v 33, .v 34, .v 35]) (by kernel_rfl) fun ρ hρ hd => ?_
  simp only [D_nil, D_add, D_sub, D_mul, D_and, D_or, D_xor, D_shl, D_shr, D_andNot, D_quo, D_rem, D_add_i64, D_sub_i64, D_mul_i64, D_add_u32, D_sub_u32, D_mul_u32, D_add_u8, D_sub_u8, D_mul_u8, D_eql, D_neq, D_lss, D_leq, D_gtr, D_geq, D_not, D_conv, D_eqs, D_call, D_cond, D_need, D_idx, D_sel, D_upd, D_shv, D_beq, List.map_cons, List.map_nil, Ref.den] at hd
  obtain ⟨h0, h4, -⟩ := hd
  have s0 : seg ρ 0 4 = dg MM 4 (timesZ (dv MM [14507833142362363162, 7578651490590762930, 13881468655802702940, 2407515759118799870]) (dv MM [7378697629483820632, 7378697629483820646, 7378697629483820646, 7378697629483820646])) := seg_of h0 (dg_len _ _ _)
  have d1 : dv MM [14507833142362363162, 7578651490590762930, 13881468655802702940, 2407515759118799870] = BP.1 := by decide
  have d2 : dv MM [7378697629483820632, 7378697629483820646, 7378697629483820646, 7378697629483820646] = BP.2 := by decide
  rw [d1, d2] at s0
  have b0 := timesZ_bd (A := BP.1) (B := BP.2) (by decide) (by decide) (by decide) (by decide)
  have e0 : dv MM (seg ρ 0 4) = timesZ BP.1 BP.2 := by rw [s0, dvW b0.1 b0.2]
  have s4 : seg ρ 4 32 = dg 256 32 (encQ (Lq [14507833142362363162, 7578651490590762930, 13881468655802702940, 2407515759118799870, 7378697629483820632, 7378697629483820646, 7378697629483820646, 7378697629483820646, 1, 0, 0, 0, ρ 0, ρ 1, ρ 2, ρ 3])) := seg_of h4 (dg_len _ _ _)
  have eL : Lq [14507833142362363162, 7578651490590762930, 13881468655802702940, 2407515759118799870, 7378697629483820632, 7378697629483820646, 7378697629483820646, 7378697629483820646, 1, 0, 0, 0, ρ 0, ρ 1, ρ 2, ρ 3] = ⟨BP.1, BP.2, 1, timesZ BP.1 BP.2⟩ := by
    show (⟨dv MM [14507833142362363162, 7578651490590762930, 13881468655802702940, 2407515759118799870], dv MM [7378697629483820632, 7378697629483820646, 7378697629483820646, 7378697629483820646], dv MM [1, 0, 0, 0], dv MM (seg ρ 0 4)⟩ : Q4) = _
    rw [d1, d2, e_one, e0]
  rw [eL, Rep.enc (Rep.at_ (p := BP) rfl rfl (timesZ_mod _ _) BP_on BP_cn)] at s4
  refine ⟨by simp only [G_nil, G_bin, G_cmp, G_not, G_conv, G_eqs, G_call, G_cond, G_need, G_idx, G_sel, G_upd, G_shv, G_beq, List.map_cons, List.map_nil, Ref.den]; exact ⟨trivial, trivial, trivial⟩, ?_⟩
  exact s4
theorem okPAdd : CtrOK Try.prog pfns cPAdd := by
  refine CtrOK.of okPT3 mixed (lf := 300) (d := 5) rfl fun w vs xs ha _ => ?_
  obtain ⟨v, u, a, b, rfl, rfl, ⟨la, -, ia⟩, ⟨lb, -, ib⟩⟩ := open2 ha
  rw [show pfns.g cPAdd.j [a, b] = (if decOK (dv 256 a) ∧ decOK (dv 256 b) then dg 256 32 (encQ (plusQ (decQ (dv 256 a)) (decQ (dv 256 b)))) ++ [0] else dg 256 32 0 ++ [3]) from rfl]
  by_cases c1 : decOK (dv 256 a)
  · by_cases c2 : decOK (dv 256 b)
    · rw [if_pos ⟨c1, c2⟩]
      refine Go.Sx.Way.of (dec := [false,false]) (fs := [.need 87 [[.v 0, .v 1, .v 2, .v 3, .v 4, .v 5, .v 6, .v 7, .v 8, .v 9, .v 10, .v 11, .v 12, .v 13, .v 14, .v 15, .v 16, .v 17, .v 18, .v 19, .v 20, .v 21, .v 22, .v 23, .v 24, .v 25, .v 26, .v 27, .v 28, .v 29, .v 30, .v 31]], .call 64 87 [[.v 0, .v 1, .v 2, .v 3, .v 4, .v 5, .v 6, .v 7, .v 8, .v 9, .v 10, .v 11, .v 12, .v 13, .v 14, .v 15, .v 16, .v 17, .v 18, .v 19, .v 20, .v 21, .v 22, .v 23, .v 24, .v 25, .v 26, .v 27, .v 28, .v 29, .v 30, .v 31]] 17, .need 87 [[.v 32, .v 33, .v 34, .v 35, .v 36, .v 37, .v 38, .v 39, .v 40, .v 41, .v 42, .v 43, .v 44, .v 45, .v 46, .v 47, .v 48, .v 49, .v 50, .v 51, .v 52, .v 53, .v 54, .v 55, .v 56, .v 57, .v 58, .v 59, .v 60, .v 61, .v 62, .v 63]], .call 81 87 [[.v 32, .v 33, .v 34, .v 35, .v 36, .v 37, .v 38, .v 39, .v 40, .v 41, .v 42, .v 43, .v 44, .v 45, .v 46, .v 47, .v 48, .v 49, .v 50, .v 51, .v 52, .v 53, .v 54, .v 55, .v 56, .v 57, .v 58, .v 59, .v 60, .v 61, .v 62, .v 63]] 17, .not 98 (.v 80), .cond 98 false, .not 99 (.v 97), .cond 99 false, .need 83 [[.v 64, .v 65, .v 66, .v 67, .v 68, .v 69, .v 70, .v 71, .v 72, .v 73, .v 74, .v 75, .v 76, .v 77, .v 78, .v 79], [.v 81, .v 82, .v 83, .v 84, .v 85, .v 86, .v 87, .v 88, .v 89, .v 90, .v 91, .v 92, .v 93, .v 94, .v 95, .v 96]], .call 100 83 [[.v 64, .v 65, .v 66, .v 67, .v 68, .v 69, .v 70, .v 71, .v 72, .v 73, .v 74, .v 75, .v 76, .v 77, .v 78, .v 79], [.v 81, .v 82, .v 83, .v 84, .v 85, .v 86, .v 87, .v 88, .v 89, .v 90, .v 91, .v 92, .v 93, .v 94, .v 95, .v 96]] 16, .need 86 [[.v 100, .v 101, .v 102, .v 103, .v 104, .v 105, .v 106, .v 107, .v 108, .v 109, .v 110, .v 111, .v 112, .v 113, .v 114, .v 115]], .call 116 86 [[.v 100, .v 101, .v 102, .v 103, .v 104, .v 105, .v 106, .v 107, .v 108, .v 109, .v 110, .v 111, .v 112, .v 113, .v 114, .v 115]] 32]) (refs := [.v 116, .v 117, .v 118, .v 119, .v 120, .v 121, .v 122, .v 123, .v 124, .v 125, .v 126, .v 127, .v 128, .v 129, .v 130, .v 131, .v 132, .v 133, .v 134, .v 135, .v 136, .v 137, .v 138, .v 139, .v 140, .v 141, .v 142, .v 143, .v 144, .v 145, .v 146, .v 147, .l 0]) (by kernel_rfl) fun ρ hρ hd => ?_
      obtain ⟨ea, eb⟩ := seg2 la lb hρ
      simp only [D_nil, D_add, D_sub, D_mul, D_and, D_or, D_xor, D_shl, D_shr, D_andNot, D_quo, D_rem, D_add_i64, D_sub_i64, D_mul_i64, D_add_u32, D_sub_u32, D_mul_u32, D_add_u8, D_sub_u8, D_mul_u8, D_eql, D_neq, D_lss, D_leq, D_gtr, D_geq, D_not, D_conv, D_eqs, D_call, D_cond, D_need, D_idx, D_sel, D_upd, D_shv, D_beq, List.map_cons, List.map_nil, Ref.den] at hd
      obtain ⟨h64, h81, h98, h99, h100, h116, -⟩ := hd
      obtain ⟨s64, k80⟩ := read_yes (A := dv 256 (seg ρ 0 32)) h64 (by rw [ea]; exact c1)
      obtain ⟨s81, k97⟩ := read_yes (A := dv 256 (seg ρ 32 32)) h81 (by rw [eb]; exact c2)
      have k98 := not_bit h98 k80
      have k99 := not_bit h99 k97
      have s100 : seg ρ 100 16 = qL (plusQ (Lq (seg ρ 64 16)) (Lq (seg ρ 81 16))) := seg_of h100 (qL_len _)
      have s116 : seg ρ 116 32 = dg 256 32 (encQ (Lq (seg ρ 100 16))) := seg_of h116 (dg_len _ _ _)
      rw [s64, s81, Lq_qL (decQ_bd _), Lq_qL (decQ_bd _), ea, eb] at s100
      rw [s100, Lq_qL (plusQ_bd (decQ_bd _) (decQ_bd _))] at s116
      refine ⟨by simp only [G_nil, G_bin, G_cmp, G_not, G_conv, G_eqs, G_call, G_cond, G_need, G_idx, G_sel, G_upd, G_shv, G_beq, List.map_cons, List.map_nil, Ref.den]; exact ⟨trivial, trivial, k98, k99, trivial, trivial, trivial⟩, ?_⟩
      show seg ρ 116 32 ++ [0] = _
      rw [s116]
    · rw [if_neg (fun h => c2 h.2)]
      refine Go.Sx.Way.of (dec := [false,true]) (fs := [.need 87 [[.v 0, .v 1, .v 2, .v 3, .v 4, .v 5, .v 6, .v 7, .v 8, .v 9, .v 10, .v 11, .v 12, .v 13, .v 14, .v 15, .v 16, .v 17, .v 18, .v 19, .v 20, .v 21, .v 22, .v 23, .v 24, .v 25, .v 26, .v 27, .v 28, .v 29, .v 30, .v 31]], .call 64 87 [[.v 0, .v 1, .v 2, .v 3, .v 4, .v 5, .v 6, .v 7, .v 8, .v 9, .v 10, .v 11, .v 12, .v 13, .v 14, .v 15, .v 16, .v 17, .v 18, .v 19, .v 20, .v 21, .v 22, .v 23, .v 24, .v 25, .v 26, .v 27, .v 28, .v 29, .v 30, .v 31]] 17, .need 87 [[.v 32, .v 33, .v 34, .v 35, .v 36, .v 37, .v 38, .v 39, .v 40, .v 41, .v 42, .v 43, .v 44, .v 45, .v 46, .v 47, .v 48, .v 49, .v 50, .v 51, .v 52, .v 53, .v 54, .v 55, .v 56, .v 57, .v 58, .v 59, .v 60, .v 61, .v 62, .v 63]], .call 81 87 [[.v 32, .v 33, .v 34, .v 35, .v 36, .v 37, .v 38, .v 39, .v 40, .v 41, .v 42, .v 43, .v 44, .v 45, .v 46, .v 47, .v 48, .v 49, .v 50, .v 51, .v 52, .v 53, .v 54, .v 55, .v 56, .v 57, .v 58, .v 59, .v 60, .v 61, .v 62, .v 63]] 17, .not 98 (.v 80), .cond 98 false, .not 99 (.v 97), .cond 99 true]) (refs := [.l 0, .l 0, .l 0, .l 0, .l 0, .l 0, .l 0, .l 0, .l 0, .l 0, .l 0, .l 0, .l 0, .l 0, .l 0, .l 0, .l 0, .l 0, .l 0, .l 0, .l 0, .l 0, .l 0, .l 0, .l 0, .l 0, .l 0, .l 0, .l 0, .l 0, .l 0, .l 0, .l 3]) (by kernel_rfl) fun ρ hρ hd => ?_
      obtain ⟨ea, eb⟩ := seg2 la lb hρ
      simp only [D_nil, D_add, D_sub, D_mul, D_and, D_or, D_xor, D_shl, D_shr, D_andNot, D_quo, D_rem, D_add_i64, D_sub_i64, D_mul_i64, D_add_u32, D_sub_u32, D_mul_u32, D_add_u8, D_sub_u8, D_mul_u8, D_eql, D_neq, D_lss, D_leq, D_gtr, D_geq, D_not, D_conv, D_eqs, D_call, D_cond, D_need, D_idx, D_sel, D_upd, D_shv, D_beq, List.map_cons, List.map_nil, Ref.den] at hd
      obtain ⟨h64, h81, h98, h99, -⟩ := hd
      obtain ⟨s64, k80⟩ := read_yes (A := dv 256 (seg ρ 0 32)) h64 (by rw [ea]; exact c1)
      have k97 := read_no (A := dv 256 (seg ρ 32 32)) h81 (by rw [eb]; exact c2)
      have k98 := not_bit h98 k80
      have k99 : decide (ρ 99 ≠ 0) = true := by rw [not_bit0 h99 k97]; rfl
      exact ⟨by simp only [G_nil, G_bin, G_cmp, G_not, G_conv, G_eqs, G_call, G_cond, G_need, G_idx, G_sel, G_upd, G_shv, G_beq, List.map_cons, List.map_nil, Ref.den]; exact ⟨trivial, trivial, k98, k99, trivial⟩, z33⟩
  · rw [if_neg (fun h => c1 h.1)]
    refine Go.Sx.Way.of (dec := [true]) (fs := [.need 87 [[.v 0, .v 1, .v 2, .v 3, .v 4, .v 5, .v 6, .v 7, .v 8, .v 9, .v 10, .v 11, .v 12, .v 13, .v 14, .v 15, .v 16, .v 17, .v 18, .v 19, .v 20, .v 21, .v 22, .v 23, .v 24, .v 25, .v 26, .v 27, .v 28, .v 29, .v 30, .v 31]], .call 64 87 [[.v 0, .v 1, .v 2, .v 3, .v 4, .v 5, .v 6, .v 7, .v 8, .v 9, .v 10, .v 11, .v 12, .v 13, .v 14, .v 15, .v 16, .v 17, .v 18, .v 19, .v 20, .v 21, .v 22, .v 23, .v 24, .v 25, .v 26, .v 27, .v 28, .v 29, .v 30, .v 31]] 17, .need 87 [[.v 32, .v 33, .v 34, .v 35, .v 36, .v 37, .v 38, .v 39, .v 40, .v 41, .v 42, .v 43, .v 44, .v 45, .v 46, .v 47, .v 48, .v 49, .v 50, .v 51, .v 52, .v 53, .v 54, .v 55, .v 56, .v 57, .v 58, .v 59, .v 60, .v 61, .v 62, .v 63]], .call 81 87 [[.v 32, .v 33, .v 34, .v 35, .v 36, .v 37, .v 38, .v 39, .v 40, .v 41, .v 42, .v 43, .v 44, .v 45, .v 46, .v 47, .v 48, .v 49, .v 50, .v 51, .v 52, .v 53, .v 54, .v 55, .v 56, .v 57, .v 58, .v 59, .v 60, .v 61, .v 62, .v 63]] 17, .not 98 (.v 80), .cond 98 true]) (refs := [.l 0, .l 0, .l 0, .l 0, .l 0, .l 0, .l 0, .l 0, .l 0, .l 0, .l 0, .l 0, .l 0, .l 0, .l 0, .l 0, .l 0, .l 0, .l 0, .l 0, .l 0, .l 0, .l 0, .l 0, .l 0, .l 0, .l 0, .l 0, .l 0, .l 0, .l 0, .l 0, .l 3]) (by kernel_rfl) fun ρ hρ hd => ?_
    obtain ⟨ea, eb⟩ := seg2 la lb hρ
    simp only [D_nil, D_add, D_sub, D_mul, D_and, D_or, D_xor, D_shl, D_shr, D_andNot, D_quo, D_rem, D_add_i64, D_sub_i64, D_mul_i64, D_add_u32, D_sub_u32, D_mul_u32, D_add_u8, D_sub_u8, D_mul_u8, D_eql, D_neq, D_lss, D_leq, D_gtr, D_geq, D_not, D_conv, D_eqs, D_call, D_cond, D_need, D_idx, D_sel, D_upd, D_shv, D_beq, List.map_cons, List.map_nil, Ref.den] at hd
    obtain ⟨h64, h81, h98, -⟩ := hd
    have k80 := read_no (A := dv 256 (seg ρ 0 32)) h64 (by rw [ea]; exact c1)
    have k98 : decide (ρ 98 ≠ 0) = true := by rw [not_bit0 h98 k80]; rfl
    exact ⟨by simp only [G_nil, G_bin, G_cmp, G_not, G_conv, G_eqs, G_call, G_cond, G_need, G_idx, G_sel, G_upd, G_shv, G_beq, List.map_cons, List.map_nil, Ref.den]; exact ⟨trivial, trivial, k98, trivial⟩, z33⟩
theorem okPNeg : CtrOK Try.prog pfns cPNeg := by
  refine CtrOK.of okPT3 mixed (lf := 300) (d := 5) rfl fun w vs xs ha _ => ?_
  obtain ⟨v, a, rfl, rfl, ⟨la, -, ia⟩⟩ := open1 ha
  rw [show pfns.g cPNeg.j [a] = (if decOK (dv 256 a) then dg 256 32 (encQ (negQ (decQ (dv 256 a)))) ++ [0] else dg 256 32 0 ++ [3]) from rfl]
  by_cases c1 : decOK (dv 256 a)
  · rw [if_pos c1]
    refine Go.Sx.Way.of (dec := [false]) (fs := [.need 87 [[.v 0, .v 1, .v 2, .v 3, .v 4, .v 5, .v 6, .v 7, .v 8, .v 9, .v 10, .v 11, .v 12, .v 13, .v 14, .v 15, .v 16, .v 17, .v 18, .v 19, .v 20, .v 21, .v 22, .v 23, .v 24, .v 25, .v 26, .v 27, .v 28, .v 29, .v 30, .v 31]], .call 32 87 [[.v 0, .v 1, .v 2, .v 3, .v 4, .v 5, .v 6, .v 7, .v 8, .v 9, .v 10, .v 11, .v 12, .v 13, .v 14, .v 15, .v 16, .v 17, .v 18, .v 19, .v 20, .v 21, .v 22, .v 23, .v 24, .v 25, .v 26, .v 27, .v 28, .v 29, .v 30, .v 31]] 17, .not 49 (.v 48), .cond 49 false, .need 16 [[.l 0, .l 0, .l 0, .l 0], [.v 32, .v 33, .v 34, .v 35]], .call 50 16 [[.l 0, .l 0, .l 0, .l 0], [.v 32, .v 33, .v 34, .v 35]] 4, .need 18 [[.v 50, .v 51, .v 52, .v 53], [.v 36, .v 37, .v 38, .v 39]], .call 54 18 [[.v 50, .v 51, .v 52, .v 53], [.v 36, .v 37, .v 38, .v 39]] 4, .need 86 [[.v 50, .v 51, .v 52, .v 53, .v 36, .v 37, .v 38, .v 39, .l 1, .l 0, .l 0, .l 0, .v 54, .v 55, .v 56, .v 57]], .call 58 86 [[.v 50, .v 51, .v 52, .v 53, .v 36, .v 37, .v 38, .v 39, .l 1, .l 0, .l 0, .l 0, .v 54, .v 55, .v 56, .v 57]] 32]) (refs := [.v 58, .v 59, .v 60, .v 61, .v 62, .v 63, .v 64, .v 65, .v 66, .v 67, .v 68, .v 69, .v 70, .v 71, .v 72, .v 73, .v 74, .v 75, .v 76, .v 77, .v 78, .v 79, .v 80, .v 81, .v 82, .v 83, .v 84, .v 85, .v 86, .v 87, .v 88, .v 89, .l 0]) (by kernel_rfl) fun ρ hρ hd => ?_
    have ea := seg0 la hρ
    simp only [D_nil, D_add, D_sub, D_mul, D_and, D_or, D_xor, D_shl, D_shr, D_andNot, D_quo, D_rem, D_add_i64, D_sub_i64, D_mul_i64, D_add_u32, D_sub_u32, D_mul_u32, D_add_u8, D_sub_u8, D_mul_u8, D_eql, D_neq, D_lss, D_leq, D_gtr, D_geq, D_not, D_conv, D_eqs, D_call, D_cond, D_need, D_idx, D_sel, D_upd, D_shv, D_beq, List.map_cons, List.map_nil, Ref.den] at hd
    obtain ⟨h32, h49, h50, h54, h58, -⟩ := hd
    obtain ⟨s32, k48⟩ := read_yes (A := dv 256 (seg ρ 0 32)) h32 (by rw [ea]; exact c1)
    have k49 := not_bit h49 k48
    rw [ea] at s32
    have hQ := Lq_qL (decQ_bd (dv 256 a))
    rw [← s32] at hQ
    have bq := decQ_bd (dv 256 a)
    generalize decQ (dv 256 a) = q at *
    have hx : dv MM (seg ρ 32 4) = q.x := congrArg Q4.x hQ
    have hy : dv MM (seg ρ 36 4) = q.y := congrArg Q4.y hQ
    have s50 : seg ρ 50 4 = dg MM 4 (minZ (dv MM [0, 0, 0, 0]) (dv MM (seg ρ 32 4))) := seg_of h50 (dg_len _ _ _)
    obtain ⟨e50, b50⟩ := fm s50 bZ (by rw [hx]; exact bq.1)
    have s54 : seg ρ 54 4 = dg MM 4 (timesZ (dv MM (seg ρ 50 4)) (dv MM (seg ρ 36 4))) := seg_of h54 (dg_len _ _ _)
    obtain ⟨e54, b54⟩ := ft s54 b50 (by rw [hy]; exact bq.2.1)
    have s58 : seg ρ 58 32 = dg 256 32 (encQ (Lq (seg ρ 50 4 ++ (seg ρ 36 4 ++ ([1, 0, 0, 0] ++ seg ρ 54 4))))) := seg_of h58 (dg_len _ _ _)
    have eL : Lq (seg ρ 50 4 ++ (seg ρ 36 4 ++ ([1, 0, 0, 0] ++ seg ρ 54 4))) = negQ q := by
      show (⟨dv MM (seg ρ 50 4), dv MM (seg ρ 36 4), dv MM [1, 0, 0, 0], dv MM (seg ρ 54 4)⟩ : Q4) = _
      rw [e54, e50, hx, hy, e_one, e_nil]; rfl
    rw [eL] at s58
    refine ⟨by simp only [G_nil, G_bin, G_cmp, G_not, G_conv, G_eqs, G_call, G_cond, G_need, G_idx, G_sel, G_upd, G_shv, G_beq, List.map_cons, List.map_nil, Ref.den]; exact ⟨trivial, k49, trivial, trivial, trivial, trivial⟩, ?_⟩
    show seg ρ 58 32 ++ [0] = _
    rw [s58]
  · rw [if_neg c1]
    refine Go.Sx.Way.of (dec := [true]) (fs := [.need 87 [[.v 0, .v 1, .v 2, .v 3, .v 4, .v 5, .v 6, .v 7, .v 8, .v 9, .v 10, .v 11, .v 12, .v 13, .v 14, .v 15, .v 16, .v 17, .v 18, .v 19, .v 20, .v 21, .v 22, .v 23, .v 24, .v 25, .v 26, .v 27, .v 28, .v 29, .v 30, .v 31]], .call 32 87 [[.v 0, .v 1, .v 2, .v 3, .v 4, .v 5, .v 6, .v 7, .v 8, .v 9, .v 10, .v 11, .v 12, .v 13, .v 14, .v 15, .v 16, .v 17, .v 18, .v 19, .v 20, .v 21, .v 22, .v 23, .v 24, .v 25, .v 26, .v 27, .v 28, .v 29, .v 30, .v 31]] 17, .not 49 (.v 48), .cond 49 true]) (refs := [.l 0, .l 0, .l 0, .l 0, .l 0, .l 0, .l 0, .l 0, .l 0, .l 0, .l 0, .l 0, .l 0, .l 0, .l 0, .l 0, .l 0, .l 0, .l 0, .l 0, .l 0, .l 0, .l 0, .l 0, .l 0, .l 0, .l 0, .l 0, .l 0, .l 0, .l 0, .l 0, .l 3]) (by kernel_rfl) fun ρ hρ hd => ?_
    have ea := seg0 la hρ
    simp only [D_nil, D_add, D_sub, D_mul, D_and, D_or, D_xor, D_shl, D_shr, D_andNot, D_quo, D_rem, D_add_i64, D_sub_i64, D_mul_i64, D_add_u32, D_sub_u32, D_mul_u32, D_add_u8, D_sub_u8, D_mul_u8, D_eql, D_neq, D_lss, D_leq, D_gtr, D_geq, D_not, D_conv, D_eqs, D_call, D_cond, D_need, D_idx, D_sel, D_upd, D_shv, D_beq, List.map_cons, List.map_nil, Ref.den] at hd
    obtain ⟨h32, h49, -⟩ := hd
    have k48 := read_no (A := dv 256 (seg ρ 0 32)) h32 (by rw [ea]; exact c1)
    have k49 : decide (ρ 49 ≠ 0) = true := by rw [not_bit0 h49 k48]; rfl
    exact ⟨by simp only [G_nil, G_bin, G_cmp, G_not, G_conv, G_eqs, G_call, G_cond, G_need, G_idx, G_sel, G_upd, G_shv, G_beq, List.map_cons, List.map_nil, Ref.den]; exact ⟨trivial, k49, trivial⟩, z33⟩
theorem okPMul : CtrOK Try.prog pfns cPMul := by
  refine CtrOK.of okPT3 mixed (lf := 300) (d := 5) rfl fun w vs xs ha _ => ?_
  obtain ⟨v, u, n, a, rfl, rfl, ⟨ln, -, _⟩, ⟨la, -, ia⟩⟩ := open2 ha
  rw [show pfns.g cPMul.j [n, a] = (if decOK (dv 256 a) then dg 256 32 (encQ (mulQ (decQ (dv 256 a)) (dv 256 n) 256)) ++ [0] else dg 256 32 0 ++ [3]) from rfl]
  by_cases c1 : decOK (dv 256 a)
  · rw [if_pos c1]
    refine Go.Sx.Way.of (dec := [false]) (fs := [.need 87 [[.v 32, .v 33, .v 34, .v 35, .v 36, .v 37, .v 38, .v 39, .v 40, .v 41, .v 42, .v 43, .v 44, .v 45, .v 46, .v 47, .v 48, .v 49, .v 50, .v 51, .v 52, .v 53, .v 54, .v 55, .v 56, .v 57, .v 58, .v 59, .v 60, .v 61, .v 62, .v 63]], .call 64 87 [[.v 32, .v 33, .v 34, .v 35, .v 36, .v 37, .v 38, .v 39, .v 40, .v 41, .v 42, .v 43, .v 44, .v 45, .v 46, .v 47, .v 48, .v 49, .v 50, .v 51, .v 52, .v 53, .v 54, .v 55, .v 56, .v 57, .v 58, .v 59, .v 60, .v 61, .v 62, .v 63]] 17, .not 81 (.v 80), .cond 81 false, .need 84 [[.v 64, .v 65, .v 66, .v 67, .v 68, .v 69, .v 70, .v 71, .v 72, .v 73, .v 74, .v 75, .v 76, .v 77, .v 78, .v 79], [.v 0, .v 1, .v 2, .v 3, .v 4, .v 5, .v 6, .v 7, .v 8, .v 9, .v 10, .v 11, .v 12, .v 13, .v 14, .v 15, .v 16, .v 17, .v 18, .v 19, .v 20, .v 21, .v 22, .v 23, .v 24, .v 25, .v 26, .v 27, .v 28, .v 29, .v 30, .v 31]], .call 82 84 [[.v 64, .v 65, .v 66, .v 67, .v 68, .v 69, .v 70, .v 71, .v 72, .v 73, .v 74, .v 75, .v 76, .v 77, .v 78, .v 79], [.v 0, .v 1, .v 2, .v 3, .v 4, .v 5, .v 6, .v 7, .v 8, .v 9, .v 10, .v 11, .v 12, .v 13, .v 14, .v 15, .v 16, .v 17, .v 18, .v 19, .v 20, .v 21, .v 22, .v 23, .v 24, .v 25, .v 26, .v 27, .v 28, .v 29, .v 30, .v 31]] 16, .need 86 [[.v 82, .v 83, .v 84, .v 85, .v 86, .v 87, .v 88, .v 89, .v 90, .v 91, .v 92, .v 93, .v 94, .v 95, .v 96, .v 97]], .call 98 86 [[.v 82, .v 83, .v 84, .v 85, .v 86, .v 87, .v 88, .v 89, .v 90, .v 91, .v 92, .v 93, .v 94, .v 95, .v 96, .v 97]] 32]) (refs := [.v 98, .v 99, .v 100, .v 101, .v 102, .v 103, .v 104, .v 105, .v 106, .v 107, .v 108, .v 109, .v 110, .v 111, .v 112, .v 113, .v 114, .v 115, .v 116, .v 117, .v 118, .v 119, .v 120, .v 121, .v 122, .v 123, .v 124, .v 125, .v 126, .v 127, .v 128, .v 129, .l 0]) (by kernel_rfl) fun ρ hρ hd => ?_
    obtain ⟨en, ea⟩ := seg2 ln la hρ
    simp only [D_nil, D_add, D_sub, D_mul, D_and, D_or, D_xor, D_shl, D_shr, D_andNot, D_quo, D_rem, D_add_i64, D_sub_i64, D_mul_i64, D_add_u32, D_sub_u32, D_mul_u32, D_add_u8, D_sub_u8, D_mul_u8, D_eql, D_neq, D_lss, D_leq, D_gtr, D_geq, D_not, D_conv, D_eqs, D_call, D_cond, D_need, D_idx, D_sel, D_upd, D_shv, D_beq, List.map_cons, List.map_nil, Ref.den] at hd
    obtain ⟨h64, h81, h82, h98, -⟩ := hd
    obtain ⟨s64, k80⟩ := read_yes (A := dv 256 (seg ρ 32 32)) h64 (by rw [ea]; exact c1)
    have k81 := not_bit h81 k80
    have s82 : seg ρ 82 16 = qL (mulQ (Lq (seg ρ 64 16)) (dv 256 (seg ρ 0 32)) 256) := seg_of h82 (qL_len _)
    have s98 : seg ρ 98 32 = dg 256 32 (encQ (Lq (seg ρ 82 16))) := seg_of h98 (dg_len _ _ _)
    rw [s64, Lq_qL (decQ_bd _), en, ea] at s82
    rw [s82, Lq_qL (mulQ_bd (decQ_bd _) _ _)] at s98
    refine ⟨by simp only [G_nil, G_bin, G_cmp, G_not, G_conv, G_eqs, G_call, G_cond, G_need, G_idx, G_sel, G_upd, G_shv, G_beq, List.map_cons, List.map_nil, Ref.den]; exact ⟨trivial, k81, trivial, trivial, trivial⟩, ?_⟩
    show seg ρ 98 32 ++ [0] = _
    rw [s98]
  · rw [if_neg c1]
    refine Go.Sx.Way.of (dec := [true]) (fs := [.need 87 [[.v 32, .v 33, .v 34, .v 35, .v 36, .v 37, .v 38, .v 39, .v 40, .v 41, .v 42, .v 43, .v 44, .v 45, .v 46, .v 47, .v 48, .v 49, .v 50, .v 51, .v 52, .v 53, .v 54, .v 55, .v 56, .v 57, .v 58, .v 59, .v 60, .v 61, .v 62, .v 63]], .call 64 87 [[.v 32, .v 33, .v 34, .v 35, .v 36, .v 37, .v 38, .v 39, .v 40, .v 41, .v 42, .v 43, .v 44, .v 45, .v 46, .v 47, .v 48, .v 49, .v 50, .v 51, .v 52, .v 53, .v 54, .v 55, .v 56, .v 57, .v 58, .v 59, .v 60, .v 61, .v 62, .v 63]] 17, .not 81 (.v 80), .cond 81 true]) (refs := [.l 0, .l 0, .l 0, .l 0, .l 0, .l 0, .l 0, .l 0, .l 0, .l 0, .l 0, .l 0, .l 0, .l 0, .l 0, .l 0, .l 0, .l 0, .l 0, .l 0, .l 0, .l 0, .l 0, .l 0, .l 0, .l 0, .l 0, .l 0, .l 0, .l 0, .l 0, .l 0, .l 3]) (by kernel_rfl) fun ρ hρ hd => ?_
    obtain ⟨en, ea⟩ := seg2 ln la hρ
    simp only [D_nil, D_add, D_sub, D_mul, D_and, D_or, D_xor, D_shl, D_shr, D_andNot, D_quo, D_rem, D_add_i64, D_sub_i64, D_mul_i64, D_add_u32, D_sub_u32, D_mul_u32, D_add_u8, D_sub_u8, D_mul_u8, D_eql, D_neq, D_lss, D_leq, D_gtr, D_geq, D_not, D_conv, D_eqs, D_call, D_cond, D_need, D_idx, D_sel, D_upd, D_shv, D_beq, List.map_cons, List.map_nil, Ref.den] at hd
    obtain ⟨h64, h81, -⟩ := hd
    have k80 := read_no (A := dv 256 (seg ρ 32 32)) h64 (by rw [ea]; exact c1)
    have k81 : decide (ρ 81 ≠ 0) = true := by rw [not_bit0 h81 k80]; rfl
    exact ⟨by simp only [G_nil, G_bin, G_cmp, G_not, G_conv, G_eqs, G_call, G_cond, G_need, G_idx, G_sel, G_upd, G_shv, G_beq, List.map_cons, List.map_nil, Ref.den]; exact ⟨trivial, k81, trivial⟩, z33⟩
theorem okPAt : CtrOK Try.prog pfns cPAt := by
  refine CtrOK.of okPT3 mixed (lf := 300) (d := 5) rfl fun w vs xs ha _ => ?_
  obtain ⟨v, a, rfl, rfl, ⟨la, -, ia⟩⟩ := open1 ha
  rw [show pfns.g cPAt.j [a] = (if decOK (dv 256 a) then dg 256 32 (decX (dv 256 a) % PP) ++ (dg 256 32 (dv 256 a % H255) ++ [0]) else dg 256 32 0 ++ (dg 256 32 0 ++ [3])) from rfl]
  by_cases c1 : decOK (dv 256 a)
  · rw [if_pos c1]
    refine Go.Sx.Way.of (dec := [false]) (fs := [.need 87 [[.v 0, .v 1, .v 2, .v 3, .v 4, .v 5, .v 6, .v 7, .v 8, .v 9, .v 10, .v 11, .v 12, .v 13, .v 14, .v 15, .v 16, .v 17, .v 18, .v 19, .v 20, .v 21, .v 22, .v 23, .v 24, .v 25, .v 26, .v 27, .v 28, .v 29, .v 30, .v 31]], .call 32 87 [[.v 0, .v 1, .v 2, .v 3, .v 4, .v 5, .v 6, .v 7, .v 8, .v 9, .v 10, .v 11, .v 12, .v 13, .v 14, .v 15, .v 16, .v 17, .v 18, .v 19, .v 20, .v 21, .v 22, .v 23, .v 24, .v 25, .v 26, .v 27, .v 28, .v 29, .v 30, .v 31]] 17, .not 49 (.v 48), .cond 49 false, .need 13 [[.v 32, .v 33, .v 34, .v 35]], .call 50 13 [[.v 32, .v 33, .v 34, .v 35]] 32, .need 13 [[.v 36, .v 37, .v 38, .v 39]], .call 82 13 [[.v 36, .v 37, .v 38, .v 39]] 32]) (refs := [.v 50, .v 51, .v 52, .v 53, .v 54, .v 55, .v 56, .v 57, .v 58, .v 59, .v 60, .v 61, .v 62, .v 63, .v 64, .v 65, .v 66, .v 67, .v 68, .v 69, .v 70, .v 71, .v 72, .v 73, .v 74, .v 75, .v 76, .v 77, .v 78, .v 79, .v 80, .v 81, .v 82, .v 83, .v 84, .v 85, .v 86, .v 87, .v 88, .v 89, .v 90, .v 91, .v 92, .v 93, .v 94, .v 95, .v 96, .v 97, .v 98, .v 99, .v 100, .v 101, .v 102, .v 103, .v 104, .v 105, .v 106, .v 107, .v 108, .v 109, .v 110, .v 111, .v 112, .v 113, .l 0]) (by kernel_rfl) fun ρ hρ hd => ?_
    have ea := seg0 la hρ
    simp only [D_nil, D_add, D_sub, D_mul, D_and, D_or, D_xor, D_shl, D_shr, D_andNot, D_quo, D_rem, D_add_i64, D_sub_i64, D_mul_i64, D_add_u32, D_sub_u32, D_mul_u32, D_add_u8, D_sub_u8, D_mul_u8, D_eql, D_neq, D_lss, D_leq, D_gtr, D_geq, D_not, D_conv, D_eqs, D_call, D_cond, D_need, D_idx, D_sel, D_upd, D_shv, D_beq, List.map_cons, List.map_nil, Ref.den] at hd
    obtain ⟨h32, h49, h50, h82, -⟩ := hd
    obtain ⟨s32, k48⟩ := read_yes (A := dv 256 (seg ρ 0 32)) h32 (by rw [ea]; exact c1)
    have k49 := not_bit h49 k48
    rw [ea] at s32
    have hQ := Lq_qL (decQ_bd (dv 256 a))
    rw [← s32] at hQ
    have hx : dv MM (seg ρ 32 4) = decX (dv 256 a) := congrArg Q4.x hQ
    have hy : dv MM (seg ρ 36 4) = dv 256 a % H255 := congrArg Q4.y hQ
    have s50 : seg ρ 50 32 = dg 256 32 (dv MM (seg ρ 32 4) % PP) := seg_of h50 (dg_len _ _ _)
    have s82 : seg ρ 82 32 = dg 256 32 (dv MM (seg ρ 36 4) % PP) := seg_of h82 (dg_len _ _ _)
    have y0 := Int.emod_nonneg (dv 256 a) (b := H255) (by decide)
    rw [hx] at s50
    rw [hy, Int.emod_eq_of_lt y0 c1.1] at s82
    refine ⟨by simp only [G_nil, G_bin, G_cmp, G_not, G_conv, G_eqs, G_call, G_cond, G_need, G_idx, G_sel, G_upd, G_shv, G_beq, List.map_cons, List.map_nil, Ref.den]; exact ⟨trivial, k49, trivial, trivial, trivial⟩, ?_⟩
    show seg ρ 50 32 ++ (seg ρ 82 32 ++ [0]) = _
    rw [s50, s82]
  · rw [if_neg c1]
    refine Go.Sx.Way.of (dec := [true]) (fs := [.need 87 [[.v 0, .v 1, .v 2, .v 3, .v 4, .v 5, .v 6, .v 7, .v 8, .v 9, .v 10, .v 11, .v 12, .v 13, .v 14, .v 15, .v 16, .v 17, .v 18, .v 19, .v 20, .v 21, .v 22, .v 23, .v 24, .v 25, .v 26, .v 27, .v 28, .v 29, .v 30, .v 31]], .call 32 87 [[.v 0, .v 1, .v 2, .v 3, .v 4, .v 5, .v 6, .v 7, .v 8, .v 9, .v 10, .v 11, .v 12, .v 13, .v 14, .v 15, .v 16, .v 17, .v 18, .v 19, .v 20, .v 21, .v 22, .v 23, .v 24, .v 25, .v 26, .v 27, .v 28, .v 29, .v 30, .v 31]] 17, .not 49 (.v 48), .cond 49 true]) (refs := [.l 0, .l 0, .l 0, .l 0, .l 0, .l 0, .l 0, .l 0, .l 0, .l 0, .l 0, .l 0, .l 0, .l 0, .l 0, .l 0, .l 0, .l 0, .l 0, .l 0, .l 0, .l 0, .l 0, .l 0, .l 0, .l 0, .l 0, .l 0, .l 0, .l 0, .l 0, .l 0, .l 0, .l 0, .l 0, .l 0, .l 0, .l 0, .l 0, .l 0, .l 0, .l 0, .l 0, .l 0, .l 0, .l 0, .l 0, .l 0, .l 0, .l 0, .l 0, .l 0, .l 0, .l 0, .l 0, .l 0, .l 0, .l 0, .l 0, .l 0, .l 0, .l 0, .l 0, .l 0, .l 3]) (by kernel_rfl) fun ρ hρ hd => ?_
    have ea := seg0 la hρ
    simp only [D_nil, D_add, D_sub, D_mul, D_and, D_or, D_xor, D_shl, D_shr, D_andNot, D_quo, D_rem, D_add_i64, D_sub_i64, D_mul_i64, D_add_u32, D_sub_u32, D_mul_u32, D_add_u8, D_sub_u8, D_mul_u8, D_eql, D_neq, D_lss, D_leq, D_gtr, D_geq, D_not, D_conv, D_eqs, D_call, D_cond, D_need, D_idx, D_sel, D_upd, D_shv, D_beq, List.map_cons, List.map_nil, Ref.den] at hd
    obtain ⟨h32, h49, -⟩ := hd
    have k48 := read_no (A := dv 256 (seg ρ 0 32)) h32 (by rw [ea]; exact c1)
    have k49 : decide (ρ 49 ≠ 0) = true := by rw [not_bit0 h49 k48]; rfl
    exact ⟨by simp only [G_nil, G_bin, G_cmp, G_not, G_conv, G_eqs, G_call, G_cond, G_need, G_idx, G_sel, G_upd, G_shv, G_beq, List.map_cons, List.map_nil, Ref.den]; exact ⟨trivial, k49, trivial⟩, z65⟩
end Go.Proofs.Ytfobnajgnnccmaa
