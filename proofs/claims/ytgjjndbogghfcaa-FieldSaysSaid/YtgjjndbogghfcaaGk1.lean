/- Numbers modulo p, the paper's own functions: what is shown of carried, In, Plus, Minus. No condition. -/
import Derived.Test.YtgjjndbogghfcaaFk2
import Derived.Test.YtgjjndbogghfcaaSxV
import Derived.Test.YtgjjndbogghfcaaSxN
namespace Go.Bx
theorem car_cons {c x o c' : Int} {l os : List Int} (ho : o = (c + x) % 65536) (hc : c' = (c + x) / 65536) (h : os = car c' l) : o :: os = car c (x :: l) := by rw [ho, h, hc]; rfl
theorem carO_cons {c x o c' : Int} {l : List Int} (hc : c' = (c + x) / 65536) (h : o = carOut c' l) : o = carOut c (x :: l) := by rw [h, hc]; rfl
theorem pairs_cons {x y o : Int} {l os : List Int} (ho : o = x + 256 * y) (h : os = pairs16 l) : o :: os = pairs16 (x :: y :: l) := by rw [ho, h]; rfl
theorem zip_cons {f : Int → Int → Int} {x y o : Int} {l m os : List Int} (ho : o = f x y) (h : os = List.zipWith f l m) : o :: os = List.zipWith f (x :: l) (y :: m) := by rw [ho, h]; rfl
theorem bd_mono {m n : Int} {l : List Int} (h : Bd m l) (hm : m ≤ n) : Bd n l := fun z hz => by have := h z hz; omega
theorem carL_bd {l : List Int} (h : l.length = 16) (hb : Bd 4398046511104 l) : Bd 1152921504606846976 (carL l) := by
  obtain ⟨x, t, e, _, hd, h0, h1⟩ := carL_one h hb
  rw [e]
  intro z hz
  rcases List.mem_cons.1 hz with rfl | hz
  · omega
  · have := hd z hz; omega
end Go.Bx
namespace Go.Proofs.Ytgjjndbogghfcaa
open Go.RowKit Go.Bx Go.Sx
set_option linter.unusedSimpArgs false
set_option maxRecDepth 100000
def cCar : Ctr := ⟨59, 50, [.arr .i64 16], [.arr .i64 16]⟩
def cIn : Ctr := ⟨41, 51, [.arr .u8 32], [.arr .i64 16]⟩
def cFPlus : Ctr := ⟨43, 53, [.arr .i64 16, .arr .i64 16], [.arr .i64 16]⟩
def cFMinus : Ctr := ⟨44, 54, [.arr .i64 16, .arr .i64 16], [.arr .i64 16]⟩
theorem no_ctr : ∀ c ∈ ([] : List Ctr), CtrOK Try.prog sfns c := fun _ h => by cases h
theorem car_step {x c s c' z o : Int} (hx : -1152921504606846976 ≤ x ∧ x ≤ 1152921504606846976) (hc : -70368744177664 ≤ c ∧ c ≤ 70368744177664) (hs : s = c + x) (h1 : binZ .shr .i64 s 16 = some c') (h2 : binZ .shl .i64 c' 16 = some z) (h3 : o = IntKind.i64.wrap (s - z)) :
    (-70368744177664 ≤ c' ∧ c' ≤ 70368744177664) ∧ o = (c + x) % 65536 ∧ c' = (c + x) / 65536 := by
  have e1 : c' = s / 2 ^ 16 := u_shr 16 (by decide) h1 rfl
  simp only [Int.reducePow] at e1
  have e2 : z = c' * 2 ^ 16 := k_shli 16 (by decide) h2 rfl (by simp only [Int.reducePow]; exact i64R (by omega) (by omega))
  simp only [Int.reducePow] at e2
  rw [IntKind.wrap_i64] at h3
  exact ⟨by omega, by omega, by omega⟩
theorem add_i {x c s : Int} (hx : -1152921504606846976 ≤ x ∧ x ≤ 1152921504606846976) (hc : -70368744177664 ≤ c ∧ c ≤ 70368744177664) (h : s = IntKind.i64.wrap (x + c)) : s = c + x := by
  rw [IntKind.wrap_i64] at h; omega
theorem okCar : CtrOK Try.prog sfns cCar := by
  refine CtrOK.of no_ctr mixed (lf := 300) (d := 5) rfl fun w vs xs ha hp => ?_
  obtain ⟨v, a, rfl, rfl, ⟨la, -, ia⟩⟩ := open1 ha
  have hp : Bd 1152921504606846976 a := hp
  refine Go.Sx.Way.of (dec := []) (fs := [.bin 16 .shr .i64 (.v 0) (.l 16), .bin 17 .shl .i64 (.v 16) (.l 16), .bin 18 .sub .i64 (.v 0) (.v 17), .bin 19 .add .i64 (.v 1) (.v 16), .bin 20 .shr .i64 (.v 19) (.l 16), .bin 21 .shl .i64 (.v 20) (.l 16), .bin 22 .sub .i64 (.v 19) (.v 21), .bin 23 .add .i64 (.v 2) (.v 20), .bin 24 .shr .i64 (.v 23) (.l 16), .bin 25 .shl .i64 (.v 24) (.l 16), .bin 26 .sub .i64 (.v 23) (.v 25), .bin 27 .add .i64 (.v 3) (.v 24), .bin 28 .shr .i64 (.v 27) (.l 16), .bin 29 .shl .i64 (.v 28) (.l 16), .bin 30 .sub .i64 (.v 27) (.v 29), .bin 31 .add .i64 (.v 4) (.v 28), .bin 32 .shr .i64 (.v 31) (.l 16), .bin 33 .shl .i64 (.v 32) (.l 16), .bin 34 .sub .i64 (.v 31) (.v 33), .bin 35 .add .i64 (.v 5) (.v 32), .bin 36 .shr .i64 (.v 35) (.l 16), .bin 37 .shl .i64 (.v 36) (.l 16), .bin 38 .sub .i64 (.v 35) (.v 37), .bin 39 .add .i64 (.v 6) (.v 36), .bin 40 .shr .i64 (.v 39) (.l 16), .bin 41 .shl .i64 (.v 40) (.l 16), .bin 42 .sub .i64 (.v 39) (.v 41), .bin 43 .add .i64 (.v 7) (.v 40), .bin 44 .shr .i64 (.v 43) (.l 16), .bin 45 .shl .i64 (.v 44) (.l 16), .bin 46 .sub .i64 (.v 43) (.v 45), .bin 47 .add .i64 (.v 8) (.v 44), .bin 48 .shr .i64 (.v 47) (.l 16), .bin 49 .shl .i64 (.v 48) (.l 16), .bin 50 .sub .i64 (.v 47) (.v 49), .bin 51 .add .i64 (.v 9) (.v 48), .bin 52 .shr .i64 (.v 51) (.l 16), .bin 53 .shl .i64 (.v 52) (.l 16), .bin 54 .sub .i64 (.v 51) (.v 53), .bin 55 .add .i64 (.v 10) (.v 52), .bin 56 .shr .i64 (.v 55) (.l 16), .bin 57 .shl .i64 (.v 56) (.l 16), .bin 58 .sub .i64 (.v 55) (.v 57), .bin 59 .add .i64 (.v 11) (.v 56), .bin 60 .shr .i64 (.v 59) (.l 16), .bin 61 .shl .i64 (.v 60) (.l 16), .bin 62 .sub .i64 (.v 59) (.v 61), .bin 63 .add .i64 (.v 12) (.v 60), .bin 64 .shr .i64 (.v 63) (.l 16), .bin 65 .shl .i64 (.v 64) (.l 16), .bin 66 .sub .i64 (.v 63) (.v 65), .bin 67 .add .i64 (.v 13) (.v 64), .bin 68 .shr .i64 (.v 67) (.l 16), .bin 69 .shl .i64 (.v 68) (.l 16), .bin 70 .sub .i64 (.v 67) (.v 69), .bin 71 .add .i64 (.v 14) (.v 68), .bin 72 .shr .i64 (.v 71) (.l 16), .bin 73 .shl .i64 (.v 72) (.l 16), .bin 74 .sub .i64 (.v 71) (.v 73), .bin 75 .add .i64 (.v 15) (.v 72), .bin 76 .shr .i64 (.v 75) (.l 16), .bin 77 .shl .i64 (.v 76) (.l 16), .bin 78 .sub .i64 (.v 75) (.v 77), .bin 79 .mul .i64 (.l 38) (.v 76), .bin 80 .add .i64 (.v 18) (.v 79)]) (refs := [.v 80, .v 22, .v 26, .v 30, .v 34, .v 38, .v 42, .v 46, .v 50, .v 54, .v 58, .v 62, .v 66, .v 70, .v 74, .v 78]) (by kernel_rfl) fun ρ hρ hd => ?_
  have ea : seg ρ 0 16 = a := seg_of (fun i hi => by rw [Nat.zero_add, hρ i hi]; simp only [flat, List.flatten_cons, List.flatten_nil, List.append_nil]) la
  simp only [D_nil, D_add, D_sub, D_mul, D_and, D_or, D_xor, D_shl, D_shr, D_andNot, D_quo, D_rem, D_add_i64, D_sub_i64, D_mul_i64, D_add_u32, D_sub_u32, D_mul_u32, D_add_u8, D_sub_u8, D_mul_u8, D_eql, D_neq, D_lss, D_leq, D_gtr, D_geq, D_not, D_conv, D_eqs, D_call, D_cond, D_need, D_idx, D_sel, D_upd, D_shv, D_beq, List.map_cons, List.map_nil, Ref.den] at hd
  obtain ⟨h16, h17, h18, h19, h20, h21, h22, h23, h24, h25, h26, h27, h28, h29, h30, h31, h32, h33, h34, h35, h36, h37, h38, h39, h40, h41, h42, h43, h44, h45, h46, h47, h48, h49, h50, h51, h52, h53, h54, h55, h56, h57, h58, h59, h60, h61, h62, h63, h64, h65, h66, h67, h68, h69, h70, h71, h72, h73, h74, h75, h76, h77, h78, h79, h80, -⟩ := hd
  have g : ∀ i, i < 16 → -1152921504606846976 ≤ ρ i ∧ ρ i ≤ 1152921504606846976 := fun i hi => by
    have h := bd_get (show Bd 1152921504606846976 (seg ρ 0 16) by rw [ea]; exact hp) (by decide) i
    rwa [seg_get hi, Nat.zero_add] at h
  have p0 := car_step (g 0 (by decide)) (c := 0) (by omega) (s := ρ 0) (by omega) h16 h17 h18
  have q1 := add_i (g 1 (by decide)) p0.1 h19
  have p1 := car_step (g 1 (by decide)) p0.1 q1 h20 h21 h22
  have q2 := add_i (g 2 (by decide)) p1.1 h23
  have p2 := car_step (g 2 (by decide)) p1.1 q2 h24 h25 h26
  have q3 := add_i (g 3 (by decide)) p2.1 h27
  have p3 := car_step (g 3 (by decide)) p2.1 q3 h28 h29 h30
  have q4 := add_i (g 4 (by decide)) p3.1 h31
  have p4 := car_step (g 4 (by decide)) p3.1 q4 h32 h33 h34
  have q5 := add_i (g 5 (by decide)) p4.1 h35
  have p5 := car_step (g 5 (by decide)) p4.1 q5 h36 h37 h38
  have q6 := add_i (g 6 (by decide)) p5.1 h39
  have p6 := car_step (g 6 (by decide)) p5.1 q6 h40 h41 h42
  have q7 := add_i (g 7 (by decide)) p6.1 h43
  have p7 := car_step (g 7 (by decide)) p6.1 q7 h44 h45 h46
  have q8 := add_i (g 8 (by decide)) p7.1 h47
  have p8 := car_step (g 8 (by decide)) p7.1 q8 h48 h49 h50
  have q9 := add_i (g 9 (by decide)) p8.1 h51
  have p9 := car_step (g 9 (by decide)) p8.1 q9 h52 h53 h54
  have q10 := add_i (g 10 (by decide)) p9.1 h55
  have p10 := car_step (g 10 (by decide)) p9.1 q10 h56 h57 h58
  have q11 := add_i (g 11 (by decide)) p10.1 h59
  have p11 := car_step (g 11 (by decide)) p10.1 q11 h60 h61 h62
  have q12 := add_i (g 12 (by decide)) p11.1 h63
  have p12 := car_step (g 12 (by decide)) p11.1 q12 h64 h65 h66
  have q13 := add_i (g 13 (by decide)) p12.1 h67
  have p13 := car_step (g 13 (by decide)) p12.1 q13 h68 h69 h70
  have q14 := add_i (g 14 (by decide)) p13.1 h71
  have p14 := car_step (g 14 (by decide)) p13.1 q14 h72 h73 h74
  have q15 := add_i (g 15 (by decide)) p14.1 h75
  have p15 := car_step (g 15 (by decide)) p14.1 q15 h76 h77 h78
  have st : [ρ 22, ρ 26, ρ 30, ρ 34, ρ 38, ρ 42, ρ 46, ρ 50, ρ 54, ρ 58, ρ 62, ρ 66, ρ 70, ρ 74, ρ 78] = car (ρ 16) [ρ 1, ρ 2, ρ 3, ρ 4, ρ 5, ρ 6, ρ 7, ρ 8, ρ 9, ρ 10, ρ 11, ρ 12, ρ 13, ρ 14, ρ 15] :=
    car_cons p1.2.1 p1.2.2 (car_cons p2.2.1 p2.2.2 (car_cons p3.2.1 p3.2.2 (car_cons p4.2.1 p4.2.2 (car_cons p5.2.1 p5.2.2 (car_cons p6.2.1 p6.2.2 (car_cons p7.2.1 p7.2.2 (car_cons p8.2.1 p8.2.2 (car_cons p9.2.1 p9.2.2 (car_cons p10.2.1 p10.2.2 (car_cons p11.2.1 p11.2.2 (car_cons p12.2.1 p12.2.2 (car_cons p13.2.1 p13.2.2 (car_cons p14.2.1 p14.2.2 (car_cons p15.2.1 p15.2.2 (rfl)))))))))))))))
  have so : ρ 76 = carOut 0 (seg ρ 0 16) :=
    carO_cons p0.2.2 (carO_cons p1.2.2 (carO_cons p2.2.2 (carO_cons p3.2.2 (carO_cons p4.2.2 (carO_cons p5.2.2 (carO_cons p6.2.2 (carO_cons p7.2.2 (carO_cons p8.2.2 (carO_cons p9.2.2 (carO_cons p10.2.2 (carO_cons p11.2.2 (carO_cons p12.2.2 (carO_cons p13.2.2 (carO_cons p14.2.2 (carO_cons p15.2.2 (rfl))))))))))))))))
  rw [IntKind.wrap_i64] at h79 h80
  have b76 := p15.1
  have e18 := p0.2.1
  have e16 := p0.2.2
  rw [Int.zero_add] at e18 e16
  refine ⟨by simp only [G_nil, G_bin, G_cmp, G_not, G_conv, G_eqs, G_call, G_cond, G_need, G_idx, G_sel, G_upd, G_shv, G_beq, List.map_cons, List.map_nil, Ref.den], ?_⟩
  show ρ 80 :: [ρ 22, ρ 26, ρ 30, ρ 34, ρ 38, ρ 42, ρ 46, ρ 50, ρ 54, ρ 58, ρ 62, ρ 66, ρ 70, ρ 74, ρ 78] = carL a
  rw [← ea, show seg ρ 0 16 = ρ 0 :: [ρ 1, ρ 2, ρ 3, ρ 4, ρ 5, ρ 6, ρ 7, ρ 8, ρ 9, ρ 10, ρ 11, ρ 12, ρ 13, ρ 14, ρ 15] from rfl, carL_cons, st, e16]
  have so' : ρ 76 = carOut 0 (ρ 0 :: [ρ 1, ρ 2, ρ 3, ρ 4, ρ 5, ρ 6, ρ 7, ρ 8, ρ 9, ρ 10, ρ 11, ρ 12, ρ 13, ρ 14, ρ 15]) := so
  rw [← so']
  congr 1
  omega
theorem in_step {x y cx cy z o : Int} (hx : 0 ≤ x ∧ x < 256) (hy : 0 ≤ y ∧ y < 256) (h1 : cx = IntKind.i64.wrap x) (h2 : cy = IntKind.i64.wrap y) (h3 : binZ .shl .i64 cy 8 = some z) (h4 : o = IntKind.i64.wrap (cx + z)) : o = x + 256 * y := by
  rw [IntKind.wrap_i64] at h1 h2 h4
  have e2 : z = cy * 2 ^ 8 := k_shli 8 (by decide) h3 rfl (by simp only [Int.reducePow]; exact i64R (by omega) (by omega))
  simp only [Int.reducePow] at e2
  omega
theorem okIn : CtrOK Try.prog sfns cIn := by
  refine CtrOK.of no_ctr mixed (lf := 300) (d := 5) rfl fun w vs xs ha _ => ?_
  obtain ⟨v, a, rfl, rfl, ⟨la, -, ia⟩⟩ := open1 ha
  refine Go.Sx.Way.of (dec := []) (fs := [.conv 32 .i64 (.v 0), .conv 33 .i64 (.v 1), .bin 34 .shl .i64 (.v 33) (.l 8), .bin 35 .add .i64 (.v 32) (.v 34), .conv 36 .i64 (.v 2), .conv 37 .i64 (.v 3), .bin 38 .shl .i64 (.v 37) (.l 8), .bin 39 .add .i64 (.v 36) (.v 38), .conv 40 .i64 (.v 4), .conv 41 .i64 (.v 5), .bin 42 .shl .i64 (.v 41) (.l 8), .bin 43 .add .i64 (.v 40) (.v 42), .conv 44 .i64 (.v 6), .conv 45 .i64 (.v 7), .bin 46 .shl .i64 (.v 45) (.l 8), .bin 47 .add .i64 (.v 44) (.v 46), .conv 48 .i64 (.v 8), .conv 49 .i64 (.v 9), .bin 50 .shl .i64 (.v 49) (.l 8), .bin 51 .add .i64 (.v 48) (.v 50), .conv 52 .i64 (.v 10), .conv 53 .i64 (.v 11), .bin 54 .shl .i64 (.v 53) (.l 8), .bin 55 .add .i64 (.v 52) (.v 54), .conv 56 .i64 (.v 12), .conv 57 .i64 (.v 13), .bin 58 .shl .i64 (.v 57) (.l 8), .bin 59 .add .i64 (.v 56) (.v 58), .conv 60 .i64 (.v 14), .conv 61 .i64 (.v 15), .bin 62 .shl .i64 (.v 61) (.l 8), .bin 63 .add .i64 (.v 60) (.v 62), .conv 64 .i64 (.v 16), .conv 65 .i64 (.v 17), .bin 66 .shl .i64 (.v 65) (.l 8), .bin 67 .add .i64 (.v 64) (.v 66), .conv 68 .i64 (.v 18), .conv 69 .i64 (.v 19), .bin 70 .shl .i64 (.v 69) (.l 8), .bin 71 .add .i64 (.v 68) (.v 70), .conv 72 .i64 (.v 20), .conv 73 .i64 (.v 21), .bin 74 .shl .i64 (.v 73) (.l 8), .bin 75 .add .i64 (.v 72) (.v 74), .conv 76 .i64 (.v 22), .conv 77 .i64 (.v 23), .bin 78 .shl .i64 (.v 77) (.l 8), .bin 79 .add .i64 (.v 76) (.v 78), .conv 80 .i64 (.v 24), .conv 81 .i64 (.v 25), .bin 82 .shl .i64 (.v 81) (.l 8), .bin 83 .add .i64 (.v 80) (.v 82), .conv 84 .i64 (.v 26), .conv 85 .i64 (.v 27), .bin 86 .shl .i64 (.v 85) (.l 8), .bin 87 .add .i64 (.v 84) (.v 86), .conv 88 .i64 (.v 28), .conv 89 .i64 (.v 29), .bin 90 .shl .i64 (.v 89) (.l 8), .bin 91 .add .i64 (.v 88) (.v 90), .conv 92 .i64 (.v 30), .conv 93 .i64 (.v 31), .bin 94 .shl .i64 (.v 93) (.l 8), .bin 95 .add .i64 (.v 92) (.v 94)]) (refs := [.v 35, .v 39, .v 43, .v 47, .v 51, .v 55, .v 59, .v 63, .v 67, .v 71, .v 75, .v 79, .v 83, .v 87, .v 91, .v 95]) (by kernel_rfl) fun ρ hρ hd => ?_
  have ea : seg ρ 0 32 = a := seg_of (fun i hi => by rw [Nat.zero_add, hρ i hi]; simp only [flat, List.flatten_cons, List.flatten_nil, List.append_nil]) la
  have dA := dig8 ia
  have g : ∀ i, i < 32 → 0 ≤ ρ i ∧ ρ i < 256 := fun i hi => by
    have h := dA.d _ (getD_mem (l := a) (i := i) (by omega))
    rwa [← ea, seg_get hi, Nat.zero_add] at h
  simp only [D_nil, D_add, D_sub, D_mul, D_and, D_or, D_xor, D_shl, D_shr, D_andNot, D_quo, D_rem, D_add_i64, D_sub_i64, D_mul_i64, D_add_u32, D_sub_u32, D_mul_u32, D_add_u8, D_sub_u8, D_mul_u8, D_eql, D_neq, D_lss, D_leq, D_gtr, D_geq, D_not, D_conv, D_eqs, D_call, D_cond, D_need, D_idx, D_sel, D_upd, D_shv, D_beq, List.map_cons, List.map_nil, Ref.den] at hd
  obtain ⟨h32, h33, h34, h35, h36, h37, h38, h39, h40, h41, h42, h43, h44, h45, h46, h47, h48, h49, h50, h51, h52, h53, h54, h55, h56, h57, h58, h59, h60, h61, h62, h63, h64, h65, h66, h67, h68, h69, h70, h71, h72, h73, h74, h75, h76, h77, h78, h79, h80, h81, h82, h83, h84, h85, h86, h87, h88, h89, h90, h91, h92, h93, h94, h95, -⟩ := hd
  have p0 := in_step (g 0 (by decide)) (g 1 (by decide)) h32 h33 h34 h35
  have p1 := in_step (g 2 (by decide)) (g 3 (by decide)) h36 h37 h38 h39
  have p2 := in_step (g 4 (by decide)) (g 5 (by decide)) h40 h41 h42 h43
  have p3 := in_step (g 6 (by decide)) (g 7 (by decide)) h44 h45 h46 h47
  have p4 := in_step (g 8 (by decide)) (g 9 (by decide)) h48 h49 h50 h51
  have p5 := in_step (g 10 (by decide)) (g 11 (by decide)) h52 h53 h54 h55
  have p6 := in_step (g 12 (by decide)) (g 13 (by decide)) h56 h57 h58 h59
  have p7 := in_step (g 14 (by decide)) (g 15 (by decide)) h60 h61 h62 h63
  have p8 := in_step (g 16 (by decide)) (g 17 (by decide)) h64 h65 h66 h67
  have p9 := in_step (g 18 (by decide)) (g 19 (by decide)) h68 h69 h70 h71
  have p10 := in_step (g 20 (by decide)) (g 21 (by decide)) h72 h73 h74 h75
  have p11 := in_step (g 22 (by decide)) (g 23 (by decide)) h76 h77 h78 h79
  have p12 := in_step (g 24 (by decide)) (g 25 (by decide)) h80 h81 h82 h83
  have p13 := in_step (g 26 (by decide)) (g 27 (by decide)) h84 h85 h86 h87
  have p14 := in_step (g 28 (by decide)) (g 29 (by decide)) h88 h89 h90 h91
  have p15 := in_step (g 30 (by decide)) (g 31 (by decide)) h92 h93 h94 h95
  refine ⟨by simp only [G_nil, G_bin, G_cmp, G_not, G_conv, G_eqs, G_call, G_cond, G_need, G_idx, G_sel, G_upd, G_shv, G_beq, List.map_cons, List.map_nil, Ref.den], ?_⟩
  show [ρ 35, ρ 39, ρ 43, ρ 47, ρ 51, ρ 55, ρ 59, ρ 63, ρ 67, ρ 71, ρ 75, ρ 79, ρ 83, ρ 87, ρ 91, ρ 95] = pairs16 a
  rw [← ea]
  exact pairs_cons p0 (pairs_cons p1 (pairs_cons p2 (pairs_cons p3 (pairs_cons p4 (pairs_cons p5 (pairs_cons p6 (pairs_cons p7 (pairs_cons p8 (pairs_cons p9 (pairs_cons p10 (pairs_cons p11 (pairs_cons p12 (pairs_cons p13 (pairs_cons p14 (pairs_cons p15 (rfl))))))))))))))))
/-- Carried twice. -/
theorem twice {ρ : Nat → Int} {n : Nat} {L : List Int} (lL : L.length = 16) (hb : Bd 4398046511104 L) (h1 : ∀ i, i < 16 → ρ (n + i) = (sfns.g 50 [L]).getD i 0) (h2 : ∀ i, i < 16 → ρ (n + 16 + i) = (sfns.g 50 [seg ρ n 16]).getD i 0) :
    seg ρ (n + 16) 16 = carL (carL L) ∧ Bd 1152921504606846976 L ∧ Bd 1152921504606846976 (seg ρ n 16) := by
  have s1 : seg ρ n 16 = carL L := seg_of h1 (carL_len lL)
  have s2 : seg ρ (n + 16) 16 = carL (seg ρ n 16) := seg_of h2 (carL_len (seg_len _ _ _))
  rw [s1] at s2
  exact ⟨s2, bd_mono hb (by decide), by rw [s1]; exact carL_bd lL hb⟩
def GT1 : List Ctr := [cCar]
theorem okGT1 : ∀ c ∈ GT1, CtrOK Try.prog sfns c := by
  intro c hc
  rcases List.mem_singleton.1 hc with rfl
  exact okCar
theorem okFPlus : CtrOK Try.prog sfns cFPlus := by
  refine CtrOK.of okGT1 mixed (lf := 300) (d := 5) rfl fun w vs xs ha hp => ?_
  obtain ⟨v, u, a, b, rfl, rfl, ⟨la, -, ia⟩, ⟨lb, -, ib⟩⟩ := open2 ha
  obtain ⟨fa, fb⟩ : FF a ∧ FF b := hp
  have bA := ff_bd fa
  have bB := ff_bd fb
  refine Go.Sx.Way.of (dec := []) (fs := [.bin 32 .add .i64 (.v 0) (.v 16), .bin 33 .add .i64 (.v 1) (.v 17), .bin 34 .add .i64 (.v 2) (.v 18), .bin 35 .add .i64 (.v 3) (.v 19), .bin 36 .add .i64 (.v 4) (.v 20), .bin 37 .add .i64 (.v 5) (.v 21), .bin 38 .add .i64 (.v 6) (.v 22), .bin 39 .add .i64 (.v 7) (.v 23), .bin 40 .add .i64 (.v 8) (.v 24), .bin 41 .add .i64 (.v 9) (.v 25), .bin 42 .add .i64 (.v 10) (.v 26), .bin 43 .add .i64 (.v 11) (.v 27), .bin 44 .add .i64 (.v 12) (.v 28), .bin 45 .add .i64 (.v 13) (.v 29), .bin 46 .add .i64 (.v 14) (.v 30), .bin 47 .add .i64 (.v 15) (.v 31), .need 50 [[.v 32, .v 33, .v 34, .v 35, .v 36, .v 37, .v 38, .v 39, .v 40, .v 41, .v 42, .v 43, .v 44, .v 45, .v 46, .v 47]], .call 48 50 [[.v 32, .v 33, .v 34, .v 35, .v 36, .v 37, .v 38, .v 39, .v 40, .v 41, .v 42, .v 43, .v 44, .v 45, .v 46, .v 47]] 16, .need 50 [[.v 48, .v 49, .v 50, .v 51, .v 52, .v 53, .v 54, .v 55, .v 56, .v 57, .v 58, .v 59, .v 60, .v 61, .v 62, .v 63]], .call 64 50 [[.v 48, .v 49, .v 50, .v 51, .v 52, .v 53, .v 54, .v 55, .v 56, .v 57, .v 58, .v 59, .v 60, .v 61, .v 62, .v 63]] 16]) (refs := [.v 64, .v 65, .v 66, .v 67, .v 68, .v 69, .v 70, .v 71, .v 72, .v 73, .v 74, .v 75, .v 76, .v 77, .v 78, .v 79]) (by kernel_rfl) fun ρ hρ hd => ?_
  have ea : seg ρ 0 16 = a := seg_of (fun i hi => by
    rw [Nat.zero_add, hρ i (by show i < 32; omega)]
    simp only [flat, List.flatten_cons, List.flatten_nil, List.append_nil, List.getD_eq_getElem?_getD]
    rw [List.getElem?_append_left (by omega)]) la
  have eb : seg ρ 16 16 = b := seg_of (fun i hi => by
    rw [hρ (16 + i) (by show 16 + i < 32; omega)]
    simp only [flat, List.flatten_cons, List.flatten_nil, List.append_nil, List.getD_eq_getElem?_getD]
    rw [List.getElem?_append_right (by omega), la, Nat.add_sub_cancel_left]) lb
  simp only [D_nil, D_add, D_sub, D_mul, D_and, D_or, D_xor, D_shl, D_shr, D_andNot, D_quo, D_rem, D_add_i64, D_sub_i64, D_mul_i64, D_add_u32, D_sub_u32, D_mul_u32, D_add_u8, D_sub_u8, D_mul_u8, D_eql, D_neq, D_lss, D_leq, D_gtr, D_geq, D_not, D_conv, D_eqs, D_call, D_cond, D_need, D_idx, D_sel, D_upd, D_shv, D_beq, List.map_cons, List.map_nil, Ref.den] at hd
  obtain ⟨h32, h33, h34, h35, h36, h37, h38, h39, h40, h41, h42, h43, h44, h45, h46, h47, h48, h64, -⟩ := hd
  have gA : ∀ i, i < 16 → -65573 ≤ ρ i ∧ ρ i ≤ 65573 := fun i hi => by
    have h := bd_get (show Bd 65573 (seg ρ 0 16) by rw [ea]; exact bA) (by decide) i
    rwa [seg_get hi, Nat.zero_add] at h
  have gB : ∀ i, i < 16 → -65573 ≤ ρ (16 + i) ∧ ρ (16 + i) ≤ 65573 := fun i hi => by
    have h := bd_get (show Bd 65573 (seg ρ 16 16) by rw [eb]; exact bB) (by decide) i
    rwa [seg_get hi] at h
  have st : ∀ {x y o : Int}, (-65573 ≤ x ∧ x ≤ 65573) → (-65573 ≤ y ∧ y ≤ 65573) → o = IntKind.i64.wrap (x + y) → o = x + y := fun hx hy h => by rw [IntKind.wrap_i64] at h; omega
  have sz : seg ρ 32 16 = List.zipWith (· + ·) (seg ρ 0 16) (seg ρ 16 16) :=
    zip_cons (st (gA 0 (by decide)) (gB 0 (by decide)) h32) (zip_cons (st (gA 1 (by decide)) (gB 1 (by decide)) h33) (zip_cons (st (gA 2 (by decide)) (gB 2 (by decide)) h34) (zip_cons (st (gA 3 (by decide)) (gB 3 (by decide)) h35) (zip_cons (st (gA 4 (by decide)) (gB 4 (by decide)) h36) (zip_cons (st (gA 5 (by decide)) (gB 5 (by decide)) h37) (zip_cons (st (gA 6 (by decide)) (gB 6 (by decide)) h38) (zip_cons (st (gA 7 (by decide)) (gB 7 (by decide)) h39) (zip_cons (st (gA 8 (by decide)) (gB 8 (by decide)) h40) (zip_cons (st (gA 9 (by decide)) (gB 9 (by decide)) h41) (zip_cons (st (gA 10 (by decide)) (gB 10 (by decide)) h42) (zip_cons (st (gA 11 (by decide)) (gB 11 (by decide)) h43) (zip_cons (st (gA 12 (by decide)) (gB 12 (by decide)) h44) (zip_cons (st (gA 13 (by decide)) (gB 13 (by decide)) h45) (zip_cons (st (gA 14 (by decide)) (gB 14 (by decide)) h46) (zip_cons (st (gA 15 (by decide)) (gB 15 (by decide)) h47) (rfl))))))))))))))))
  rw [ea, eb] at sz
  have hb : Bd 4398046511104 (seg ρ 32 16) := by
    rw [sz]; exact zip_bd (m := 65573) (fun x y hx hy => by omega) bA bB
  obtain ⟨r1, r2, r3⟩ := twice (n := 48) (seg_len _ _ _) hb h48 h64
  refine ⟨by simp only [G_nil, G_bin, G_cmp, G_not, G_conv, G_eqs, G_call, G_cond, G_need, G_idx, G_sel, G_upd, G_shv, G_beq, List.map_cons, List.map_nil, Ref.den]; exact ⟨r2, r3, trivial⟩, ?_⟩
  show seg ρ 64 16 = plusF a b
  rw [r1, sz]; rfl
theorem okFMinus : CtrOK Try.prog sfns cFMinus := by
  refine CtrOK.of okGT1 mixed (lf := 300) (d := 5) rfl fun w vs xs ha hp => ?_
  obtain ⟨v, u, a, b, rfl, rfl, ⟨la, -, ia⟩, ⟨lb, -, ib⟩⟩ := open2 ha
  obtain ⟨fa, fb⟩ : FF a ∧ FF b := hp
  have bA := ff_bd fa
  have bB := ff_bd fb
  refine Go.Sx.Way.of (dec := []) (fs := [.bin 32 .sub .i64 (.v 0) (.v 16), .bin 33 .sub .i64 (.v 1) (.v 17), .bin 34 .sub .i64 (.v 2) (.v 18), .bin 35 .sub .i64 (.v 3) (.v 19), .bin 36 .sub .i64 (.v 4) (.v 20), .bin 37 .sub .i64 (.v 5) (.v 21), .bin 38 .sub .i64 (.v 6) (.v 22), .bin 39 .sub .i64 (.v 7) (.v 23), .bin 40 .sub .i64 (.v 8) (.v 24), .bin 41 .sub .i64 (.v 9) (.v 25), .bin 42 .sub .i64 (.v 10) (.v 26), .bin 43 .sub .i64 (.v 11) (.v 27), .bin 44 .sub .i64 (.v 12) (.v 28), .bin 45 .sub .i64 (.v 13) (.v 29), .bin 46 .sub .i64 (.v 14) (.v 30), .bin 47 .sub .i64 (.v 15) (.v 31), .need 50 [[.v 32, .v 33, .v 34, .v 35, .v 36, .v 37, .v 38, .v 39, .v 40, .v 41, .v 42, .v 43, .v 44, .v 45, .v 46, .v 47]], .call 48 50 [[.v 32, .v 33, .v 34, .v 35, .v 36, .v 37, .v 38, .v 39, .v 40, .v 41, .v 42, .v 43, .v 44, .v 45, .v 46, .v 47]] 16, .need 50 [[.v 48, .v 49, .v 50, .v 51, .v 52, .v 53, .v 54, .v 55, .v 56, .v 57, .v 58, .v 59, .v 60, .v 61, .v 62, .v 63]], .call 64 50 [[.v 48, .v 49, .v 50, .v 51, .v 52, .v 53, .v 54, .v 55, .v 56, .v 57, .v 58, .v 59, .v 60, .v 61, .v 62, .v 63]] 16]) (refs := [.v 64, .v 65, .v 66, .v 67, .v 68, .v 69, .v 70, .v 71, .v 72, .v 73, .v 74, .v 75, .v 76, .v 77, .v 78, .v 79]) (by kernel_rfl) fun ρ hρ hd => ?_
  have ea : seg ρ 0 16 = a := seg_of (fun i hi => by
    rw [Nat.zero_add, hρ i (by show i < 32; omega)]
    simp only [flat, List.flatten_cons, List.flatten_nil, List.append_nil, List.getD_eq_getElem?_getD]
    rw [List.getElem?_append_left (by omega)]) la
  have eb : seg ρ 16 16 = b := seg_of (fun i hi => by
    rw [hρ (16 + i) (by show 16 + i < 32; omega)]
    simp only [flat, List.flatten_cons, List.flatten_nil, List.append_nil, List.getD_eq_getElem?_getD]
    rw [List.getElem?_append_right (by omega), la, Nat.add_sub_cancel_left]) lb
  simp only [D_nil, D_add, D_sub, D_mul, D_and, D_or, D_xor, D_shl, D_shr, D_andNot, D_quo, D_rem, D_add_i64, D_sub_i64, D_mul_i64, D_add_u32, D_sub_u32, D_mul_u32, D_add_u8, D_sub_u8, D_mul_u8, D_eql, D_neq, D_lss, D_leq, D_gtr, D_geq, D_not, D_conv, D_eqs, D_call, D_cond, D_need, D_idx, D_sel, D_upd, D_shv, D_beq, List.map_cons, List.map_nil, Ref.den] at hd
  obtain ⟨h32, h33, h34, h35, h36, h37, h38, h39, h40, h41, h42, h43, h44, h45, h46, h47, h48, h64, -⟩ := hd
  have gA : ∀ i, i < 16 → -65573 ≤ ρ i ∧ ρ i ≤ 65573 := fun i hi => by
    have h := bd_get (show Bd 65573 (seg ρ 0 16) by rw [ea]; exact bA) (by decide) i
    rwa [seg_get hi, Nat.zero_add] at h
  have gB : ∀ i, i < 16 → -65573 ≤ ρ (16 + i) ∧ ρ (16 + i) ≤ 65573 := fun i hi => by
    have h := bd_get (show Bd 65573 (seg ρ 16 16) by rw [eb]; exact bB) (by decide) i
    rwa [seg_get hi] at h
  have st : ∀ {x y o : Int}, (-65573 ≤ x ∧ x ≤ 65573) → (-65573 ≤ y ∧ y ≤ 65573) → o = IntKind.i64.wrap (x - y) → o = x - y := fun hx hy h => by rw [IntKind.wrap_i64] at h; omega
  have sz : seg ρ 32 16 = List.zipWith (· - ·) (seg ρ 0 16) (seg ρ 16 16) :=
    zip_cons (st (gA 0 (by decide)) (gB 0 (by decide)) h32) (zip_cons (st (gA 1 (by decide)) (gB 1 (by decide)) h33) (zip_cons (st (gA 2 (by decide)) (gB 2 (by decide)) h34) (zip_cons (st (gA 3 (by decide)) (gB 3 (by decide)) h35) (zip_cons (st (gA 4 (by decide)) (gB 4 (by decide)) h36) (zip_cons (st (gA 5 (by decide)) (gB 5 (by decide)) h37) (zip_cons (st (gA 6 (by decide)) (gB 6 (by decide)) h38) (zip_cons (st (gA 7 (by decide)) (gB 7 (by decide)) h39) (zip_cons (st (gA 8 (by decide)) (gB 8 (by decide)) h40) (zip_cons (st (gA 9 (by decide)) (gB 9 (by decide)) h41) (zip_cons (st (gA 10 (by decide)) (gB 10 (by decide)) h42) (zip_cons (st (gA 11 (by decide)) (gB 11 (by decide)) h43) (zip_cons (st (gA 12 (by decide)) (gB 12 (by decide)) h44) (zip_cons (st (gA 13 (by decide)) (gB 13 (by decide)) h45) (zip_cons (st (gA 14 (by decide)) (gB 14 (by decide)) h46) (zip_cons (st (gA 15 (by decide)) (gB 15 (by decide)) h47) (rfl))))))))))))))))
  rw [ea, eb] at sz
  have hb : Bd 4398046511104 (seg ρ 32 16) := by
    rw [sz]; exact zip_bd (m := 65573) (fun x y hx hy => by omega) bA bB
  obtain ⟨r1, r2, r3⟩ := twice (n := 48) (seg_len _ _ _) hb h48 h64
  refine ⟨by simp only [G_nil, G_bin, G_cmp, G_not, G_conv, G_eqs, G_call, G_cond, G_need, G_idx, G_sel, G_upd, G_shv, G_beq, List.map_cons, List.map_nil, Ref.den]; exact ⟨r2, r3, trivial⟩, ?_⟩
  show seg ρ 64 16 = minF a b
  rw [r1, sz]; rfl
#print axioms okFMinus
end Go.Proofs.Ytgjjndbogghfcaa
