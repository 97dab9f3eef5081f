/- Numbers modulo p, the paper's own: what is shown of the functions. No condition. -/
import Derived.Test.YtfobnajgnnccmaaFk2
import Derived.Test.YtfobnajgnnccmaaSxV
import Derived.Test.YtfobnajgnnccmaaSxN
import Derived.Test.YtfobnajgnnccmaaFk11
import Derived.Test.YtfobnajgnnccmaaFk6
import Derived.Test.YtfobnajgnnccmaaBase3
import Derived.Test.YtfobnajgnnccmaaInfo
import Derived.Deep.DeepMust
import Derived.Test.YtfobnajgnnccmaaSxO
namespace Go.Bx
theorem car_cons {c x o c' : Int} {l os : List Int} (ho : o = (c + x) % 65536) (hc : c' = (c + x) / 65536) (h : os = car c' l) : o :: os = car c (x :: l) := by rw [ho, h, hc]; rfl
theorem carO_cons {c x o c' : Int} {l : List Int} (hc : c' = (c + x) / 65536) (h : o = carOut c' l) : o = carOut c (x :: l) := by rw [h, hc]; rfl
theorem pairs_cons {x y o : Int} {l os : List Int} (ho : o = x + 256 * y) (h : os = pairs16 l) : o :: os = pairs16 (x :: y :: l) := by rw [ho, h]; rfl
theorem zip_cons {f : Int → Int → Int} {x y o : Int} {l m os : List Int} (ho : o = f x y) (h : os = List.zipWith f l m) : o :: os = List.zipWith f (x :: l) (y :: m) := by rw [ho, h]; rfl
theorem bd_mono {m n : Int} {l : List Int} (h : Bd m l) (hm : m ≤ n) : Bd n l := fun z hz => by have := h z hz; omega
theorem carL_bd {l : List Int} (h : l.length = 16) (hb : Bd 4398046511104 l) : Bd 1152921504606846976 (carL l) := by
  obtain ⟨x, t, e, _, hd, h0, h1⟩ := carL_one h hb
  rw [e]
  intro z hz
  rcases List.mem_cons.1 hz with rfl | hz
  · omega
  · have := hd z hz; omega
end Go.Bx
namespace Go.Proofs.Ytfobnajgnnccmaa
open Go.RowKit Go.Bx Go.Sx
set_option linter.unusedSimpArgs false
set_option maxRecDepth 100000
def cCar : Ctr := ⟨82, 50, [.arr .i64 16], [.arr .i64 16]⟩
def cIn : Ctr := ⟨74, 51, [.arr .u8 32], [.arr .i64 16]⟩
def cFPlus : Ctr := ⟨77, 53, [.arr .i64 16, .arr .i64 16], [.arr .i64 16]⟩
def cFMinus : Ctr := ⟨48, 54, [.arr .i64 16, .arr .i64 16], [.arr .i64 16]⟩
theorem no_ctr : ∀ c ∈ ([] : List Ctr), CtrOK Try.prog sfns c := fun _ h => by cases h
theorem car_step {x c s c' z o : Int} (hx : -1152921504606846976 ≤ x ∧ x ≤ 1152921504606846976) (hc : -70368744177664 ≤ c ∧ c ≤ 70368744177664) (hs : s = c + x) (h1 : binZ .shr .i64 s 16 = some c') (h2 : binZ .shl .i64 c' 16 = some z) (h3 : o = IntKind.i64.wrap (s - z)) :
    (-70368744177664 ≤ c' ∧ c' ≤ 70368744177664) ∧ o = (c + x) % 65536 ∧ c' = (c + x) / 65536 := by
  have e1 : c' = s / 2 ^ 16 := u_shr 16 (by decide) h1 rfl
  simp only [Int.reducePow] at e1
  have e2 : z = c' * 2 ^ 16 := k_shli 16 (by decide) h2 rfl (by simp only [Int.reducePow]; exact i64R (by omega) (by omega))
  simp only [Int.reducePow] at e2
  rw [IntKind.wrap_i64] at h3
  exact ⟨by omega, by omega, by omega⟩
theorem add_i {x c s : Int} (hx : -1152921504606846976 ≤ x ∧ x ≤ 1152921504606846976) (hc : -70368744177664 ≤ c ∧ c ≤ 70368744177664) (h : s = IntKind.i64.wrap (x + c)) : s = c + x := by
  rw [IntKind.wrap_i64] at h; omega
theorem okCar : CtrOK Try.prog sfns cCar := by
  refine CtrOK.of no_ctr mixed (lf := 300) (d := 5) rfl fun w vs xs ha hp => ?_
  obtain ⟨v, a, rfl, rfl, ⟨la, -, ia⟩⟩ := open1 ha
  have hp : Bd 1152921504606846976 a := hp
  refine Go.Sx.Way.of (dec := []) (fs := [.bin 16 .shr .i64 (.v 0) (.l 16), .bin 17 .shl .i64 (.v 16) (.l 16), .bin 18 .sub .i64 (.v 0) (.v 17), .bin 19 .add .i64 (.v 1) (.v 16), .bin 20 .shr .i64 (.v 19) (.l 16), .bin 21 .shl .i64 (.v 20) (.l 16), .bin 22 .sub .i64 (.v 19) (.v 21), .bin 23 .add .i64 (.v 2) (.v 20), .bin 24 .shr .i64 (.v 23) (.l 16), .bin 25 .shl .i64 (.v 24) (.l 16), .bin 26 .sub .i64 (.v 23) (.v 25), .bin 27 .add .i64 (.v 3) (.v 24), .bin 28 .shr .i64 (.v 27) (.l 16), .bin 29 .shl .i64 (.v 28) (.l 16), .bin 30 .sub .i64 (.v 27) (.v 29), .bin 31 .add .i64 (.v 4) (.v 28), .bin 32 .shr .i64 (.v 31) (.l 16), .bin 33 .shl .i64 (.v 32) (.l 16), .bin 34 .sub .i64 (.v 31) (.v 33), .bin 35 .add .i64 (.v 5) (.v 32), .bin 36 .shr .i64 (.v 35) (.l 16), .bin 37 .shl .i64 (.v 36) (.l 16), .bin 38 .sub .i64 (.v 35) (.v 37), .bin 39 .add .i64 (.v 6) (.v 36), .bin 40 .shr .i64 (.v 39) (.l 16), .bin 41 .shl .i64 (.v 40) (.l 16), .bin 42 .sub .i64 (.v 39) (.v 41), .bin 43 .add .i64 (.v 7) (.v 40), .bin 44 .shr .i64 (.v 43) (.l 16), .bin 45 .shl .i64 (.v 44) (.l 16), .bin 46 .sub .i64 (.v 43) (.v 45), .bin 47 .add .i64 (.v 8) (.v 44), .bin 48 .shr .i64 (.v 47) (.l 16), .bin 49 .shl .i64 (.v 48) (.l 16), .bin 50 .sub .i64 (.v 47) (.v 49), .bin 51 .add .i64 (.v 9) (.v 48), .bin 52 .shr .i64 (.v 51) (.l 16), .bin 53 .shl .i64 (.v 52) (.l 16), .bin 54 .sub .i64 (.v 51) (.v 53), .bin 55 .add .i64 (.v 10) (.v 52), .bin 56 .shr .i64 (.v 55) (.l 16), .bin 57 .shl .i64 (.v 56) (.l 16), .bin 58 .sub .i64 (.v 55) (.v 57), .bin 59 .add .i64 (.v 11) (.v 56), .bin 60 .shr .i64 (.v 59) (.l 16), .bin 61 .shl .i64 (.v 60) (.l 16), .bin 62 .sub .i64 (.v 59) (.v 61), .bin 63 .add .i64 (.v 12) (.v 60), .bin 64 .shr .i64 (.v 63) (.l 16), .bin 65 .shl .i64 (.v 64) (.l 16), .bin 66 .sub .i64 (.v 63) (.v 65), .bin 67 .add .i64 (.v 13) (.v 64), .bin 68 .shr .i64 (.v 67) (.l 16), .bin 69 .shl .i64 (.v 68) (.l 16), .bin 70 .sub .i64 (.v 67) (.v 69), .bin 71 .add .i64 (.v 14) (.v 68), .bin 72 .shr .i64 (.v 71) (.l 16), .bin 73 .shl .i64 (.v 72) (.l 16), .bin 74 .sub .i64 (.v 71) (.v 73), .bin 75 .add .i64 (.v 15) (.v 72), .bin 76 .shr .i64 (.v 75) (.l 16), .bin 77 .shl .i64 (.v 76) (.l 16), .bin 78 .sub .i64 (.v 75) (.v 77), .bin 79 .mul .i64 (.l 38) (.v 76), .bin 80 .add .i64 (.v 18) (.v 79)]) (refs := [.v 80, .v 22, .v 26, .v 30, .v 34, .v 38, .v 42, .v 46, .v 50, .v 54, .v 58, .v 62, .v 66, .v 70, .v 74, .v 78]) (by kernel_rfl) fun ρ hρ hd => ?_
  have ea : seg ρ 0 16 = a := seg_of (fun i hi => by rw [Nat.zero_add, hρ i hi]; simp only [flat, List.flatten_cons, List.flatten_nil, List.append_nil]) la
  simp only [D_nil, D_add, D_sub, D_mul, D_and, D_or, D_xor, D_shl, D_shr, D_andNot, D_quo, D_rem, D_add_i64, D_sub_i64, D_mul_i64, D_add_u32, D_sub_u32, D_mul_u32, D_add_u8, D_sub_u8, D_mul_u8, D_eql, D_neq, D_lss, D_leq, D_gtr, D_geq, D_not, D_conv, D_eqs, D_call, D_cond, D_need, D_idx, D_sel, D_upd, D_shv, D_beq, List.map_cons, List.map_nil, Ref.den] at hd
  obtain ⟨h16, h17, h18, h19, h20, h21, h22, h23, h24, h25, h26, h27, h28, h29, h30, h31, h32, h33, h34, h35, h36, h37, h38, h39, h40, h41, h42, h43, h44, h45, h46, h47, h48, h49, h50, h51, h52, h53, h54, h55, h56, h57, h58, h59, h60, h61, h62, h63, h64, h65, h66, h67, h68, h69, h70, h71, h72, h73, h74, h75, h76, h77, h78, h79, h80, -⟩ := hd
  have g : ∀ i, i < 16 → -1152921504606846976 ≤ ρ i ∧ ρ i ≤ 1152921504606846976 := fun i hi => by
    have h := bd_get (show Bd 1152921504606846976 (seg ρ 0 16) by rw [ea]; exact hp) (by decide) i
    rwa [seg_get hi, Nat.zero_add] at h
  have p0 := car_step (g 0 (by decide)) (c := 0) (by omega) (s := ρ 0) (by omega) h16 h17 h18
  have q1 := add_i (g 1 (by decide)) p0.1 h19
  have p1 := car_step (g 1 (by decide)) p0.1 q1 h20 h21 h22
  have q2 := add_i (g 2 (by decide)) p1.1 h23
  have p2 := car_step (g 2 (by decide)) p1.1 q2 h24 h25 h26
  have q3 := add_i (g 3 (by decide)) p2.1 h27
  have p3 := car_step (g 3 (by decide)) p2.1 q3 h28 h29 h30
  have q4 := add_i (g 4 (by decide)) p3.1 h31
  have p4 := car_step (g 4 (by decide)) p3.1 q4 h32 h33 h34
  have q5 := add_i (g 5 (by decide)) p4.1 h35
  have p5 := car_step (g 5 (by decide)) p4.1 q5 h36 h37 h38
  have q6 := add_i (g 6 (by decide)) p5.1 h39
  have p6 := car_step (g 6 (by decide)) p5.1 q6 h40 h41 h42
  have q7 := add_i (g 7 (by decide)) p6.1 h43
  have p7 := car_step (g 7 (by decide)) p6.1 q7 h44 h45 h46
  have q8 := add_i (g 8 (by decide)) p7.1 h47
  have p8 := car_step (g 8 (by decide)) p7.1 q8 h48 h49 h50
  have q9 := add_i (g 9 (by decide)) p8.1 h51
  have p9 := car_step (g 9 (by decide)) p8.1 q9 h52 h53 h54
  have q10 := add_i (g 10 (by decide)) p9.1 h55
  have p10 := car_step (g 10 (by decide)) p9.1 q10 h56 h57 h58
  have q11 := add_i (g 11 (by decide)) p10.1 h59
  have p11 := car_step (g 11 (by decide)) p10.1 q11 h60 h61 h62
  have q12 := add_i (g 12 (by decide)) p11.1 h63
  have p12 := car_step (g 12 (by decide)) p11.1 q12 h64 h65 h66
  have q13 := add_i (g 13 (by decide)) p12.1 h67
  have p13 := car_step (g 13 (by decide)) p12.1 q13 h68 h69 h70
  have q14 := add_i (g 14 (by decide)) p13.1 h71
  have p14 := car_step (g 14 (by decide)) p13.1 q14 h72 h73 h74
  have q15 := add_i (g 15 (by decide)) p14.1 h75
  have p15 := car_step (g 15 (by decide)) p14.1 q15 h76 h77 h78
  have st : [ρ 22, ρ 26, ρ 30, ρ 34, ρ 38, ρ 42, ρ 46, ρ 50, ρ 54, ρ 58, ρ 62, ρ 66, ρ 70, ρ 74, ρ 78] = car (ρ 16) [ρ 1, ρ 2, ρ 3, ρ 4, ρ 5, ρ 6, ρ 7, ρ 8, ρ 9, ρ 10, ρ 11, ρ 12, ρ 13, ρ 14, ρ 15] :=
    car_cons p1.2.1 p1.2.2 (car_cons p2.2.1 p2.2.2 (car_cons p3.2.1 p3.2.2 (car_cons p4.2.1 p4.2.2 (car_cons p5.2.1 p5.2.2 (car_cons p6.2.1 p6.2.2 (car_cons p7.2.1 p7.2.2 (car_cons p8.2.1 p8.2.2 (car_cons p9.2.1 p9.2.2 (car_cons p10.2.1 p10.2.2 (car_cons p11.2.1 p11.2.2 (car_cons p12.2.1 p12.2.2 (car_cons p13.2.1 p13.2.2 (car_cons p14.2.1 p14.2.2 (car_cons p15.2.1 p15.2.2 (rfl)))))))))))))))
  have so : ρ 76 = carOut 0 (seg ρ 0 16) :=
    carO_cons p0.2.2 (carO_cons p1.2.2 (carO_cons p2.2.2 (carO_cons p3.2.2 (carO_cons p4.2.2 (carO_cons p5.2.2 (carO_cons p6.2.2 (carO_cons p7.2.2 (carO_cons p8.2.2 (carO_cons p9.2.2 (carO_cons p10.2.2 (carO_cons p11.2.2 (carO_cons p12.2.2 (carO_cons p13.2.2 (carO_cons p14.2.2 (carO_cons p15.2.2 (rfl))))))))))))))))
  rw [IntKind.wrap_i64] at h79 h80
  have b76 := p15.1
  have e18 := p0.2.1
  have e16 := p0.2.2
  rw [Int.zero_add] at e18 e16
  refine ⟨by simp only [G_nil, G_bin, G_cmp, G_not, G_conv, G_eqs, G_call, G_cond, G_need, G_idx, G_sel, G_upd, G_shv, G_beq, List.map_cons, List.map_nil, Ref.den], ?_⟩
  show ρ 80 :: [ρ 22, ρ 26, ρ 30, ρ 34, ρ 38, ρ 42, ρ 46, ρ 50, ρ 54, ρ 58, ρ 62, ρ 66, ρ 70, ρ 74, ρ 78] = carL a
  rw [← ea, show seg ρ 0 16 = ρ 0 :: [ρ 1, ρ 2, ρ 3, ρ 4, ρ 5, ρ 6, ρ 7, ρ 8, ρ 9, ρ 10, ρ 11, ρ 12, ρ 13, ρ 14, ρ 15] from rfl, carL_cons, st, e16]
  have so' : ρ 76 = carOut 0 (ρ 0 :: [ρ 1, ρ 2, ρ 3, ρ 4, ρ 5, ρ 6, ρ 7, ρ 8, ρ 9, ρ 10, ρ 11, ρ 12, ρ 13, ρ 14, ρ 15]) := so
  rw [← so']
  congr 1
  omega
theorem in_step {x y cx cy z o : Int} (hx : 0 ≤ x ∧ x < 256) (hy : 0 ≤ y ∧ y < 256) (h1 : cx = IntKind.i64.wrap x) (h2 : cy = IntKind.i64.wrap y) (h3 : binZ .shl .i64 cy 8 = some z) (h4 : o = IntKind.i64.wrap (cx + z)) : o = x + 256 * y := by
  rw [IntKind.wrap_i64] at h1 h2 h4
  have e2 : z = cy * 2 ^ 8 := k_shli 8 (by decide) h3 rfl (by simp only [Int.reducePow]; exact i64R (by omega) (by omega))
  simp only [Int.reducePow] at e2
  omega
theorem okIn : CtrOK Try.prog sfns cIn := by
  refine CtrOK.of no_ctr mixed (lf := 300) (d := 5) rfl fun w vs xs ha _ => ?_
  obtain ⟨v, a, rfl, rfl, ⟨la, -, ia⟩⟩ := open1 ha
  refine Go.Sx.Way.of (dec := []) (fs := [.conv 32 .i64 (.v 0), .conv 33 .i64 (.v 1), .bin 34 .shl .i64 (.v 33) (.l 8), .bin 35 .add .i64 (.v 32) (.v 34), .conv 36 .i64 (.v 2), .conv 37 .i64 (.v 3), .bin 38 .shl .i64 (.v 37) (.l 8), .bin 39 .add .i64 (.v 36) (.v 38), .conv 40 .i64 (.v 4), .conv 41 .i64 (.v 5), .bin 42 .shl .i64 (.v 41) (.l 8), .bin 43 .add .i64 (.v 40) (.v 42), .conv 44 .i64 (.v 6), .conv 45 .i64 (.v 7), .bin 46 .shl .i64 (.v 45) (.l 8), .bin 47 .add .i64 (.v 44) (.v 46), .conv 48 .i64 (.v 8), .conv 49 .i64 (.v 9), .bin 50 .shl .i64 (.v 49) (.l 8), .bin 51 .add .i64 (.v 48) (.v 50), .conv 52 .i64 (.v 10), .conv 53 .i64 (.v 11), .bin 54 .shl .i64 (.v 53) (.l 8), .bin 55 .add .i64 (.v 52) (.v 54), .conv 56 .i64 (.v 12), .conv 57 .i64 (.v 13), .bin 58 .shl .i64 (.v 57) (.l 8), .bin 59 .add .i64 (.v 56) (.v 58), .conv 60 .i64 (.v 14), .conv 61 .i64 (.v 15), .bin 62 .shl .i64 (.v 61) (.l 8), .bin 63 .add .i64 (.v 60) (.v 62), .conv 64 .i64 (.v 16), .conv 65 .i64 (.v 17), .bin 66 .shl .i64 (.v 65) (.l 8), .bin 67 .add .i64 (.v 64) (.v 66), .conv 68 .i64 (.v 18), .conv 69 .i64 (.v 19), .bin 70 .shl .i64 (.v 69) (.l 8), .bin 71 .add .i64 (.v 68) (.v 70), .conv 72 .i64 (.v 20), .conv 73 .i64 (.v 21), .bin 74 .shl .i64 (.v 73) (.l 8), .bin 75 .add .i64 (.v 72) (.v 74), .conv 76 .i64 (.v 22), .conv 77 .i64 (.v 23), .bin 78 .shl .i64 (.v 77) (.l 8), .bin 79 .add .i64 (.v 76) (.v 78), .conv 80 .i64 (.v 24), .conv 81 .i64 (.v 25), .bin 82 .shl .i64 (.v 81) (.l 8), .bin 83 .add .i64 (.v 80) (.v 82), .conv 84 .i64 (.v 26), .conv 85 .i64 (.v 27), .bin 86 .shl .i64 (.v 85) (.l 8), .bin 87 .add .i64 (.v 84) (.v 86), .conv 88 .i64 (.v 28), .conv 89 .i64 (.v 29), .bin 90 .shl .i64 (.v 89) (.l 8), .bin 91 .add .i64 (.v 88) (.v 90), .conv 92 .i64 (.v 30), .conv 93 .i64 (.v 31), .bin 94 .shl .i64 (.v 93) (.l 8), .bin 95 .add .i64 (.v 92) (.v 94)]) (refs := [.v 35, .v 39, .v 43, .v 47, .v 51, .v 55, .v 59, .v 63, .v 67, .v 71, .v 75, .v 79, .v 83, .v 87, .v 91, .v 95]) (by kernel_rfl) fun ρ hρ hd => ?_
  have ea : seg ρ 0 32 = a := seg_of (fun i hi => by rw [Nat.zero_add, hρ i hi]; simp only [flat, List.flatten_cons, List.flatten_nil, List.append_nil]) la
  have dA := dig8 ia
  have g : ∀ i, i < 32 → 0 ≤ ρ i ∧ ρ i < 256 := fun i hi => by
    have h := dA.d _ (getD_mem (l := a) (i := i) (by omega))
    rwa [← ea, seg_get hi, Nat.zero_add] at h
  simp only [D_nil, D_add, D_sub, D_mul, D_and, D_or, D_xor, D_shl, D_shr, D_andNot, D_quo, D_rem, D_add_i64, D_sub_i64, D_mul_i64, D_add_u32, D_sub_u32, D_mul_u32, D_add_u8, D_sub_u8, D_mul_u8, D_eql, D_neq, D_lss, D_leq, D_gtr, D_geq, D_not, D_conv, D_eqs, D_call, D_cond, D_need, D_idx, D_sel, D_upd, D_shv, D_beq, List.map_cons, List.map_nil, Ref.den] at hd
  obtain ⟨h32, h33, h34, h35, h36, h37, h38, h39, h40, h41, h42, h43, h44, h45, h46, h47, h48, h49, h50, h51, h52, h53, h54, h55, h56, h57, h58, h59, h60, h61, h62, h63, h64, h65, h66, h67, h68, h69, h70, h71, h72, h73, h74, h75, h76, h77, h78, h79, h80, h81, h82, h83, h84, h85, h86, h87, h88, h89, h90, h91, h92, h93, h94, h95, -⟩ := hd
  have p0 := in_step (g 0 (by decide)) (g 1 (by decide)) h32 h33 h34 h35
  have p1 := in_step (g 2 (by decide)) (g 3 (by decide)) h36 h37 h38 h39
  have p2 := in_step (g 4 (by decide)) (g 5 (by decide)) h40 h41 h42 h43
  have p3 := in_step (g 6 (by decide)) (g 7 (by decide)) h44 h45 h46 h47
  have p4 := in_step (g 8 (by decide)) (g 9 (by decide)) h48 h49 h50 h51
  have p5 := in_step (g 10 (by decide)) (g 11 (by decide)) h52 h53 h54 h55
  have p6 := in_step (g 12 (by decide)) (g 13 (by decide)) h56 h57 h58 h59
  have p7 := in_step (g 14 (by decide)) (g 15 (by decide)) h60 h61 h62 h63
  have p8 := in_step (g 16 (by decide)) (g 17 (by decide)) h64 h65 h66 h67
  have p9 := in_step (g 18 (by decide)) (g 19 (by decide)) h68 h69 h70 h71
  have p10 := in_step (g 20 (by decide)) (g 21 (by decide)) h72 h73 h74 h75
  have p11 := in_step (g 22 (by decide)) (g 23 (by decide)) h76 h77 h78 h79
  have p12 := in_step (g 24 (by decide)) (g 25 (by decide)) h80 h81 h82 h83
  have p13 := in_step (g 26 (by decide)) (g 27 (by decide)) h84 h85 h86 h87
  have p14 := in_step (g 28 (by decide)) (g 29 (by decide)) h88 h89 h90 h91
  have p15 := in_step (g 30 (by decide)) (g 31 (by decide)) h92 h93 h94 h95
  refine ⟨by simp only [G_nil, G_bin, G_cmp, G_not, G_conv, G_eqs, G_call, G_cond, G_need, G_idx, G_sel, G_upd, G_shv, G_beq, List.map_cons, List.map_nil, Ref.den], ?_⟩
  show [ρ 35, ρ 39, ρ 43, ρ 47, ρ 51, ρ 55, ρ 59, ρ 63, ρ 67, ρ 71, ρ 75, ρ 79, ρ 83, ρ 87, ρ 91, ρ 95] = pairs16 a
  rw [← ea]
  exact pairs_cons p0 (pairs_cons p1 (pairs_cons p2 (pairs_cons p3 (pairs_cons p4 (pairs_cons p5 (pairs_cons p6 (pairs_cons p7 (pairs_cons p8 (pairs_cons p9 (pairs_cons p10 (pairs_cons p11 (pairs_cons p12 (pairs_cons p13 (pairs_cons p14 (pairs_cons p15 (rfl))))))))))))))))
/-- Carried twice. -/
theorem twice {ρ : Nat → Int} {n : Nat} {L : List Int} (lL : L.length = 16) (hb : Bd 4398046511104 L) (h1 : ∀ i, i < 16 → ρ (n + i) = (sfns.g 50 [L]).getD i 0) (h2 : ∀ i, i < 16 → ρ (n + 16 + i) = (sfns.g 50 [seg ρ n 16]).getD i 0) :
    seg ρ (n + 16) 16 = carL (carL L) ∧ Bd 1152921504606846976 L ∧ Bd 1152921504606846976 (seg ρ n 16) := by
  have s1 : seg ρ n 16 = carL L := seg_of h1 (carL_len lL)
  have s2 : seg ρ (n + 16) 16 = carL (seg ρ n 16) := seg_of h2 (carL_len (seg_len _ _ _))
  rw [s1] at s2
  exact ⟨s2, bd_mono hb (by decide), by rw [s1]; exact carL_bd lL hb⟩
def GT1 : List Ctr := [cCar]
theorem okGT1 : ∀ c ∈ GT1, CtrOK Try.prog sfns c := by
  intro c hc
  rcases List.mem_singleton.1 hc with rfl
  exact okCar
theorem okFPlus : CtrOK Try.prog sfns cFPlus := by
  refine CtrOK.of okGT1 mixed (lf := 300) (d := 5) rfl fun w vs xs ha hp => ?_
  obtain ⟨v, u, a, b, rfl, rfl, ⟨la, -, ia⟩, ⟨lb, -, ib⟩⟩ := open2 ha
  obtain ⟨fa, fb⟩ : FF a ∧ FF b := hp
  have bA := ff_bd fa
  have bB := ff_bd fb
  refine Go.Sx.Way.of (dec := []) (fs := [.bin 32 .add .i64 (.v 0) (.v 16), .bin 33 .add .i64 (.v 1) (.v 17), .bin 34 .add .i64 (.v 2) (.v 18), .bin 35 .add .i64 (.v 3) (.v 19), .bin 36 .add .i64 (.v 4) (.v 20), .bin 37 .add .i64 (.v 5) (.v 21), .bin 38 .add .i64 (.v 6) (.v 22), .bin 39 .add .i64 (.v 7) (.v 23), .bin 40 .add .i64 (.v 8) (.v 24), .bin 41 .add .i64 (.v 9) (.v 25), .bin 42 .add .i64 (.v 10) (.v 26), .bin 43 .add .i64 (.v 11) (.v 27), .bin 44 .add .i64 (.v 12) (.v 28), .bin 45 .add .i64 (.v 13) (.v 29), .bin 46 .add .i64 (.v 14) (.v 30), .bin 47 .add .i64 (.v 15) (.v 31), .need 50 [[.v 32, .v 33, .v 34, .v 35, .v 36, .v 37, .v 38, .v 39, .v 40, .v 41, .v 42, .v 43, .v 44, .v 45, .v 46, .v 47]], .call 48 50 [[.v 32, .v 33, .v 34, .v 35, .v 36, .v 37, .v 38, .v 39, .v 40, .v 41, .v 42, .v 43, .v 44, .v 45, .v 46, .v 47]] 16, .need 50 [[.v 48, .v 49, .v 50, .v 51, .v 52, .v 53, .v 54, .v 55, .v 56, .v 57, .v 58, .v 59, .v 60, .v 61, .v 62, .v 63]], .call 64 50 [[.v 48, .v 49, .v 50, .v 51, .v 52, .v 53, .v 54, .v 55, .v 56, .v 57, .v 58, .v 59, .v 60, .v 61, .v 62, .v 63]] 16]) (refs := [.v 64, .v 65, .v 66, .v 67, .v 68, .v 69, .v 70, .v 71, .v 72, .v 73, .v 74, .v 75, .v 76, .v 77, .v 78, .v 79]) (by kernel_rfl) fun ρ hρ hd => ?_
  have ea : seg ρ 0 16 = a := seg_of (fun i hi => by
    rw [Nat.zero_add, hρ i (by show i < 32; omega)]
    simp only [flat, List.flatten_cons, List.flatten_nil, List.append_nil, List.getD_eq_getElem?_getD]
    rw [List.getElem?_append_left (by omega)]) la
  have eb : seg ρ 16 16 = b := seg_of (fun i hi => by
    rw [hρ (16 + i) (by show 16 + i < 32; omega)]
    simp only [flat, List.flatten_cons, List.flatten_nil, List.append_nil, List.getD_eq_getElem?_getD]
    rw [List.getElem?_append_right (by omega), la, Nat.add_sub_cancel_left]) lb
  simp only [D_nil, D_add, D_sub, D_mul, D_and, D_or, D_xor, D_shl, D_shr, D_andNot, D_quo, D_rem, D_add_i64, D_sub_i64, D_mul_i64, D_add_u32, D_sub_u32, D_mul_u32, D_add_u8, D_sub_u8, D_mul_u8, D_eql, D_neq, D_lss, D_leq, D_gtr, D_geq, D_not, D_conv, D_eqs, D_call, D_cond, D_need, D_idx, D_sel, D_upd, D_shv, D_beq, List.map_cons, List.map_nil, Ref.den] at hd
  obtain ⟨h32, h33, h34, h35, h36, h37, h38, h39, h40, h41, h42, h43, h44, h45, h46, h47, h48, h64, -⟩ := hd
  have gA : ∀ i, i < 16 → -65573 ≤ ρ i ∧ ρ i ≤ 65573 := fun i hi => by
    have h := bd_get (show Bd 65573 (seg ρ 0 16) by rw [ea]; exact bA) (by decide) i
    rwa [seg_get hi, Nat.zero_add] at h
  have gB : ∀ i, i < 16 → -65573 ≤ ρ (16 + i) ∧ ρ (16 + i) ≤ 65573 := fun i hi => by
    have h := bd_get (show Bd 65573 (seg ρ 16 16) by rw [eb]; exact bB) (by decide) i
    rwa [seg_get hi] at h
  have st : ∀ {x y o : Int}, (-65573 ≤ x ∧ x ≤ 65573) → (-65573 ≤ y ∧ y ≤ 65573) → o = IntKind.i64.wrap (x + y) → o = x + y := fun hx hy h => by rw [IntKind.wrap_i64] at h; omega
  have sz : seg ρ 32 16 = List.zipWith (· + ·) (seg ρ 0 16) (seg ρ 16 16) :=
    zip_cons (st (gA 0 (by decide)) (gB 0 (by decide)) h32) (zip_cons (st (gA 1 (by decide)) (gB 1 (by decide)) h33) (zip_cons (st (gA 2 (by decide)) (gB 2 (by decide)) h34) (zip_cons (st (gA 3 (by decide)) (gB 3 (by decide)) h35) (zip_cons (st (gA 4 (by decide)) (gB 4 (by decide)) h36) (zip_cons (st (gA 5 (by decide)) (gB 5 (by decide)) h37) (zip_cons (st (gA 6 (by decide)) (gB 6 (by decide)) h38) (zip_cons (st (gA 7 (by decide)) (gB 7 (by decide)) h39) (zip_cons (st (gA 8 (by decide)) (gB 8 (by decide)) h40) (zip_cons (st (gA 9 (by decide)) (gB 9 (by decide)) h41) (zip_cons (st (gA 10 (by decide)) (gB 10 (by decide)) h42) (zip_cons (st (gA 11 (by decide)) (gB 11 (by decide)) h43) (zip_cons (st (gA 12 (by decide)) (gB 12 (by decide)) h44) (zip_cons (st (gA 13 (by decide)) (gB 13 (by decide)) h45) (zip_cons (st (gA 14 (by decide)) (gB 14 (by decide)) h46) (zip_cons (st (gA 15 (by decide)) (gB 15 (by decide)) h47) (rfl))))))))))))))))
  rw [ea, eb] at sz
  have hb : Bd 4398046511104 (seg ρ 32 16) := by
    rw [sz]; exact zip_bd (m := 65573) (fun x y hx hy => by omega) bA bB
  obtain ⟨r1, r2, r3⟩ := twice (n := 48) (seg_len _ _ _) hb h48 h64
  refine ⟨by simp only [G_nil, G_bin, G_cmp, G_not, G_conv, G_eqs, G_call, G_cond, G_need, G_idx, G_sel, G_upd, G_shv, G_beq, List.map_cons, List.map_nil, Ref.den]; exact ⟨r2, r3, trivial⟩, ?_⟩
  show seg ρ 64 16 = plusF a b
  rw [r1, sz]; rfl
theorem okFMinus : CtrOK Try.prog sfns cFMinus := by
  refine CtrOK.of okGT1 mixed (lf := 300) (d := 5) rfl fun w vs xs ha hp => ?_
  obtain ⟨v, u, a, b, rfl, rfl, ⟨la, -, ia⟩, ⟨lb, -, ib⟩⟩ := open2 ha
  obtain ⟨fa, fb⟩ : FF a ∧ FF b := hp
  have bA := ff_bd fa
  have bB := ff_bd fb
  refine Go.Sx.Way.of (dec := []) (fs := [.bin 32 .sub .i64 (.v 0) (.v 16), .bin 33 .sub .i64 (.v 1) (.v 17), .bin 34 .sub .i64 (.v 2) (.v 18), .bin 35 .sub .i64 (.v 3) (.v 19), .bin 36 .sub .i64 (.v 4) (.v 20), .bin 37 .sub .i64 (.v 5) (.v 21), .bin 38 .sub .i64 (.v 6) (.v 22), .bin 39 .sub .i64 (.v 7) (.v 23), .bin 40 .sub .i64 (.v 8) (.v 24), .bin 41 .sub .i64 (.v 9) (.v 25), .bin 42 .sub .i64 (.v 10) (.v 26), .bin 43 .sub .i64 (.v 11) (.v 27), .bin 44 .sub .i64 (.v 12) (.v 28), .bin 45 .sub .i64 (.v 13) (.v 29), .bin 46 .sub .i64 (.v 14) (.v 30), .bin 47 .sub .i64 (.v 15) (.v 31), .need 50 [[.v 32, .v 33, .v 34, .v 35, .v 36, .v 37, .v 38, .v 39, .v 40, .v 41, .v 42, .v 43, .v 44, .v 45, .v 46, .v 47]], .call 48 50 [[.v 32, .v 33, .v 34, .v 35, .v 36, .v 37, .v 38, .v 39, .v 40, .v 41, .v 42, .v 43, .v 44, .v 45, .v 46, .v 47]] 16, .need 50 [[.v 48, .v 49, .v 50, .v 51, .v 52, .v 53, .v 54, .v 55, .v 56, .v 57, .v 58, .v 59, .v 60, .v 61, .v 62, .v 63]], .call 64 50 [[.v 48, .v 49, .v 50, .v 51, .v 52, .v 53, .v 54, .v 55, .v 56, .v 57, .v 58, .v 59, .v 60, .v 61, .v 62, .v 63]] 16]) (refs := [.v 64, .v 65, .v 66, .v 67, .v 68, .v 69, .v 70, .v 71, .v 72, .v 73, .v 74, .v 75, .v 76, .v 77, .v 78, .v 79]) (by kernel_rfl) fun ρ hρ hd => ?_
  have ea : seg ρ 0 16 = a := seg_of (fun i hi => by
    rw [Nat.zero_add, hρ i (by show i < 32; omega)]
    simp only [flat, List.flatten_cons, List.flatten_nil, List.append_nil, List.getD_eq_getElem?_getD]
    rw [List.getElem?_append_left (by omega)]) la
  have eb : seg ρ 16 16 = b := seg_of (fun i hi => by
    rw [hρ (16 + i) (by show 16 + i < 32; omega)]
    simp only [flat, List.flatten_cons, List.flatten_nil, List.append_nil, List.getD_eq_getElem?_getD]
    rw [List.getElem?_append_right (by omega), la, Nat.add_sub_cancel_left]) lb
  simp only [D_nil, D_add, D_sub, D_mul, D_and, D_or, D_xor, D_shl, D_shr, D_andNot, D_quo, D_rem, D_add_i64, D_sub_i64, D_mul_i64, D_add_u32, D_sub_u32, D_mul_u32, D_add_u8, D_sub_u8, D_mul_u8, D_eql, D_neq, D_lss, D_leq, D_gtr, D_geq, D_not, D_conv, D_eqs, D_call, D_cond, D_need, D_idx, D_sel, D_upd, D_shv, D_beq, List.map_cons, List.map_nil, Ref.den] at hd
  obtain ⟨h32, h33, h34, h35, h36, h37, h38, h39, h40, h41, h42, h43, h44, h45, h46, h47, h48, h64, -⟩ := hd
  have gA : ∀ i, i < 16 → -65573 ≤ ρ i ∧ ρ i ≤ 65573 := fun i hi => by
    have h := bd_get (show Bd 65573 (seg ρ 0 16) by rw [ea]; exact bA) (by decide) i
    rwa [seg_get hi, Nat.zero_add] at h
  have gB : ∀ i, i < 16 → -65573 ≤ ρ (16 + i) ∧ ρ (16 + i) ≤ 65573 := fun i hi => by
    have h := bd_get (show Bd 65573 (seg ρ 16 16) by rw [eb]; exact bB) (by decide) i
    rwa [seg_get hi] at h
  have st : ∀ {x y o : Int}, (-65573 ≤ x ∧ x ≤ 65573) → (-65573 ≤ y ∧ y ≤ 65573) → o = IntKind.i64.wrap (x - y) → o = x - y := fun hx hy h => by rw [IntKind.wrap_i64] at h; omega
  have sz : seg ρ 32 16 = List.zipWith (· - ·) (seg ρ 0 16) (seg ρ 16 16) :=
    zip_cons (st (gA 0 (by decide)) (gB 0 (by decide)) h32) (zip_cons (st (gA 1 (by decide)) (gB 1 (by decide)) h33) (zip_cons (st (gA 2 (by decide)) (gB 2 (by decide)) h34) (zip_cons (st (gA 3 (by decide)) (gB 3 (by decide)) h35) (zip_cons (st (gA 4 (by decide)) (gB 4 (by decide)) h36) (zip_cons (st (gA 5 (by decide)) (gB 5 (by decide)) h37) (zip_cons (st (gA 6 (by decide)) (gB 6 (by decide)) h38) (zip_cons (st (gA 7 (by decide)) (gB 7 (by decide)) h39) (zip_cons (st (gA 8 (by decide)) (gB 8 (by decide)) h40) (zip_cons (st (gA 9 (by decide)) (gB 9 (by decide)) h41) (zip_cons (st (gA 10 (by decide)) (gB 10 (by decide)) h42) (zip_cons (st (gA 11 (by decide)) (gB 11 (by decide)) h43) (zip_cons (st (gA 12 (by decide)) (gB 12 (by decide)) h44) (zip_cons (st (gA 13 (by decide)) (gB 13 (by decide)) h45) (zip_cons (st (gA 14 (by decide)) (gB 14 (by decide)) h46) (zip_cons (st (gA 15 (by decide)) (gB 15 (by decide)) h47) (rfl))))))))))))))))
  rw [ea, eb] at sz
  have hb : Bd 4398046511104 (seg ρ 32 16) := by
    rw [sz]; exact zip_bd (m := 65573) (fun x y hx hy => by omega) bA bB
  obtain ⟨r1, r2, r3⟩ := twice (n := 48) (seg_len _ _ _) hb h48 h64
  refine ⟨by simp only [G_nil, G_bin, G_cmp, G_not, G_conv, G_eqs, G_call, G_cond, G_need, G_idx, G_sel, G_upd, G_shv, G_beq, List.map_cons, List.map_nil, Ref.den]; exact ⟨r2, r3, trivial⟩, ?_⟩
  show seg ρ 64 16 = minF a b
  rw [r1, sz]; rfl
end Go.Proofs.Ytfobnajgnnccmaa

namespace Go.Proofs.Ytfobnajgnnccmaa
open Go.RowKit Go.Bx Go.Sx
set_option linter.unusedSimpArgs false
set_option maxRecDepth 100000
def cFTimes : Ctr := ⟨75, 55, [.arr .i64 16, .arr .i64 16], [.arr .i64 16]⟩
noncomputable def tiT : LoopT := ⟨[.any, .any, .c (.ptr 0 0), .c (.ptr 1 0), .c (.ptr 2 0), .c (.ptr 3 0), .c (.int .i64 (.v 0)), .any, .any, .any, .any, .any, .any, .any, .any, .any, .any, .any, .any, .any, .any, .any, .any, .any, .any, .any, .any, .any, .any, .any, .any, .any, .any, .any, .any, .any, .any, .any, .any, .any, .any, .any, .any, .any, .any, .any, .any, .any, .any, .any, .any, .any, .any, .any, .any, .any, .any, .any, .any, .any, .any], [some ⟨65, [.int .i64 (.v 1), .int .i64 (.v 2), .int .i64 (.v 3), .int .i64 (.v 4), .int .i64 (.v 5), .int .i64 (.v 6), .int .i64 (.v 7), .int .i64 (.v 8), .int .i64 (.v 9), .int .i64 (.v 10), .int .i64 (.v 11), .int .i64 (.v 12), .int .i64 (.v 13), .int .i64 (.v 14), .int .i64 (.v 15), .int .i64 (.v 16)]⟩, some ⟨65, [.int .i64 (.v 17), .int .i64 (.v 18), .int .i64 (.v 19), .int .i64 (.v 20), .int .i64 (.v 21), .int .i64 (.v 22), .int .i64 (.v 23), .int .i64 (.v 24), .int .i64 (.v 25), .int .i64 (.v 26), .int .i64 (.v 27), .int .i64 (.v 28), .int .i64 (.v 29), .int .i64 (.v 30), .int .i64 (.v 31), .int .i64 (.v 32)]⟩, some ⟨65, [.int .i64 (.v 33), .int .i64 (.v 34), .int .i64 (.v 35), .int .i64 (.v 36), .int .i64 (.v 37), .int .i64 (.v 38), .int .i64 (.v 39), .int .i64 (.v 40), .int .i64 (.v 41), .int .i64 (.v 42), .int .i64 (.v 43), .int .i64 (.v 44), .int .i64 (.v 45), .int .i64 (.v 46), .int .i64 (.v 47), .int .i64 (.v 48)]⟩, some ⟨117, [.int .i64 (.v 49), .int .i64 (.v 50), .int .i64 (.v 51), .int .i64 (.v 52), .int .i64 (.v 53), .int .i64 (.v 54), .int .i64 (.v 55), .int .i64 (.v 56), .int .i64 (.v 57), .int .i64 (.v 58), .int .i64 (.v 59), .int .i64 (.v 60), .int .i64 (.v 61), .int .i64 (.v 62), .int .i64 (.v 63), .int .i64 (.v 64), .int .i64 (.v 65), .int .i64 (.v 66), .int .i64 (.v 67), .int .i64 (.v 68), .int .i64 (.v 69), .int .i64 (.v 70), .int .i64 (.v 71), .int .i64 (.v 72), .int .i64 (.v 73), .int .i64 (.v 74), .int .i64 (.v 75), .int .i64 (.v 76), .int .i64 (.v 77), .int .i64 (.v 78), .int .i64 (.v 79)]⟩], 80, 60, 0, [.l 0, .v 0, .v 1, .v 2, .v 3, .v 4, .v 5, .v 6, .v 7, .v 8, .v 9, .v 10, .v 11, .v 12, .v 13, .v 14, .v 15, .v 16, .v 17, .v 18, .v 19, .v 20, .v 21, .v 22, .v 23, .v 24, .v 25, .v 26, .v 27, .v 28, .v 29, .v 30, .v 31, .l 0, .l 0, .l 0, .l 0, .l 0, .l 0, .l 0, .l 0, .l 0, .l 0, .l 0, .l 0, .l 0, .l 0, .l 0, .l 0, .l 0, .l 0, .l 0, .l 0, .l 0, .l 0, .l 0, .l 0, .l 0, .l 0, .l 0, .l 0, .l 0, .l 0, .l 0, .l 0, .l 0, .l 0, .l 0, .l 0, .l 0, .l 0, .l 0, .l 0, .l 0, .l 0, .l 0, .l 0, .l 0, .l 0, .l 0]⟩
noncomputable def tiA : LoopT := ⟨[.any, .any, .c (.ptr 0 0), .c (.ptr 1 0), .c (.ptr 2 0), .c (.ptr 3 0), .c (.int .i64 (.v 0)), .c (.int .i64 (.v 1)), .any, .any, .any, .any, .any, .any, .any, .any, .any, .any, .any, .any, .any, .any, .any, .any, .any, .any, .any, .any, .any, .any, .any, .any, .any, .any, .any, .any, .any, .any, .any, .any, .any, .any, .any, .any, .any, .any, .any, .any, .any, .any, .any, .any, .any, .any, .any, .any, .any, .any, .any, .any, .any], [some ⟨65, [.int .i64 (.v 2), .int .i64 (.v 3), .int .i64 (.v 4), .int .i64 (.v 5), .int .i64 (.v 6), .int .i64 (.v 7), .int .i64 (.v 8), .int .i64 (.v 9), .int .i64 (.v 10), .int .i64 (.v 11), .int .i64 (.v 12), .int .i64 (.v 13), .int .i64 (.v 14), .int .i64 (.v 15), .int .i64 (.v 16), .int .i64 (.v 17)]⟩, some ⟨65, [.int .i64 (.v 18), .int .i64 (.v 19), .int .i64 (.v 20), .int .i64 (.v 21), .int .i64 (.v 22), .int .i64 (.v 23), .int .i64 (.v 24), .int .i64 (.v 25), .int .i64 (.v 26), .int .i64 (.v 27), .int .i64 (.v 28), .int .i64 (.v 29), .int .i64 (.v 30), .int .i64 (.v 31), .int .i64 (.v 32), .int .i64 (.v 33)]⟩, some ⟨65, [.int .i64 (.v 34), .int .i64 (.v 35), .int .i64 (.v 36), .int .i64 (.v 37), .int .i64 (.v 38), .int .i64 (.v 39), .int .i64 (.v 40), .int .i64 (.v 41), .int .i64 (.v 42), .int .i64 (.v 43), .int .i64 (.v 44), .int .i64 (.v 45), .int .i64 (.v 46), .int .i64 (.v 47), .int .i64 (.v 48), .int .i64 (.v 49)]⟩, some ⟨117, [.int .i64 (.v 50), .int .i64 (.v 51), .int .i64 (.v 52), .int .i64 (.v 53), .int .i64 (.v 54), .int .i64 (.v 55), .int .i64 (.v 56), .int .i64 (.v 57), .int .i64 (.v 58), .int .i64 (.v 59), .int .i64 (.v 60), .int .i64 (.v 61), .int .i64 (.v 62), .int .i64 (.v 63), .int .i64 (.v 64), .int .i64 (.v 65), .int .i64 (.v 66), .int .i64 (.v 67), .int .i64 (.v 68), .int .i64 (.v 69), .int .i64 (.v 70), .int .i64 (.v 71), .int .i64 (.v 72), .int .i64 (.v 73), .int .i64 (.v 74), .int .i64 (.v 75), .int .i64 (.v 76), .int .i64 (.v 77), .int .i64 (.v 78), .int .i64 (.v 79), .int .i64 (.v 80)]⟩], 81, 61, 2, [.v 0, .l 0, .v 1, .v 2, .v 3, .v 4, .v 5, .v 6, .v 7, .v 8, .v 9, .v 10, .v 11, .v 12, .v 13, .v 14, .v 15, .v 16, .v 17, .v 18, .v 19, .v 20, .v 21, .v 22, .v 23, .v 24, .v 25, .v 26, .v 27, .v 28, .v 29, .v 30, .v 31, .v 32, .v 33, .v 34, .v 35, .v 36, .v 37, .v 38, .v 39, .v 40, .v 41, .v 42, .v 43, .v 44, .v 45, .v 46, .v 47, .v 48, .v 49, .v 50, .v 51, .v 52, .v 53, .v 54, .v 55, .v 56, .v 57, .v 58, .v 59, .v 60, .v 61, .v 62, .v 63, .v 64, .v 65, .v 66, .v 67, .v 68, .v 69, .v 70, .v 71, .v 72, .v 73, .v 74, .v 75, .v 76, .v 77, .v 78, .v 79]⟩
noncomputable def tiBody : Code := (Try.f75).body.getD .skip
noncomputable def tiIn : Code := (loopAt 0 tiBody).getD .skip
theorem seg_sp (ρ : Nat → Int) (a n m : Nat) : seg ρ a (n + m) = seg ρ a n ++ seg ρ (a + n) m := by
  unfold seg
  rw [List.range_add, List.map_append, List.map_map]
  congr 1
  exact List.map_congr_left fun i _ => by simp [Nat.add_assoc]
theorem ti_get (ρ : Nat → Int) {i : Nat} (hi : i < 81) : ρ i = ([ρ 0, ρ 1] ++ (seg ρ 2 48 ++ seg ρ 50 31)).getD i 0 := by
  rw [show [ρ 0, ρ 1] ++ (seg ρ 2 48 ++ seg ρ 50 31) = seg ρ 0 81 from rfl, seg_get hi, Nat.zero_add]
theorem ti_get' (ρ : Nat → Int) {i : Nat} (hi : i < 80) : ρ i = ([ρ 0] ++ (seg ρ 1 48 ++ seg ρ 49 31)).getD i 0 := by
  rw [show [ρ 0] ++ (seg ρ 1 48 ++ seg ρ 49 31) = seg ρ 0 80 from rfl, seg_get hi, Nat.zero_add]
theorem thirds {ρ ρ' : Nat → Int} {o o' : Nat} (h : seg ρ o 48 = seg ρ' o' 48) : seg ρ o 16 = seg ρ' o' 16 ∧ seg ρ (o + 16) 16 = seg ρ' (o' + 16) 16 := by
  rw [seg_sp ρ o 16 32, seg_sp ρ' o' 16 32] at h
  obtain ⟨h1, h2⟩ := List.append_inj h (by rw [seg_len, seg_len])
  rw [seg_sp ρ (o + 16) 16 16, seg_sp ρ' (o' + 16) 16 16] at h2
  exact ⟨h1, (List.append_inj h2 (by rw [seg_len, seg_len])).1⟩
/-- One row: the state, so far. -/
def tiRI (ρ0 ρ : Nat → Int) : Prop :=
  ρ 0 = ρ0 0 ∧ 0 ≤ ρ0 0 ∧ ρ0 0 < 16 ∧ 0 ≤ ρ 1 ∧ ρ 1 ≤ 16 ∧ seg ρ 2 48 = seg ρ0 2 48 ∧ Bd 65573 (seg ρ0 2 16) ∧ Bd 65573 (seg ρ0 18 16) ∧ Bd 1099511627776 (seg ρ0 50 31) ∧ seg ρ 50 31 = addRowF (ρ0 0).toNat (ρ 1).toNat (seg ρ0 2 16) (seg ρ0 18 16) (seg ρ0 50 31)
theorem after2 {n m : Nat} {a b : Int} {A B : List Int} (lA : A.length = n) (lB : B.length = m) {x' : Nat → Int} (hx : x' = fun j => ([a, b] ++ (A ++ B)).getD j 0) : x' 0 = a ∧ x' 1 = b ∧ seg x' 2 n = A ∧ seg x' (2 + n) m = B := by
  refine ⟨by rw [hx]; rfl, by rw [hx]; rfl, ?_, ?_⟩
  · have := seg_mid [a, b] A B
    rw [lA] at this; rw [hx]; exact this
  · have := seg_end [a, b] A B
    rw [lA, lB] at this; rw [hx]; exact this
theorem row_go {cl : Code} (hb : loopAt 0 tiIn = some cl) {ρ0 ρT : Nat → Int} (hI : tiRI ρ0 ρT) (hlt : ρT 1 < 16) :
    ∃ e x', RoundEnd Try.prog sfns (callN Try.prog GT1 300 5) 300 cl tiA.slT tiA.memT tiA.m ρT e x' ∧ ((e = .normal ∧ tiRI ρ0 x' ∧ (16 - x' 1).toNat < (16 - ρT 1).toNat) ∨ (e = .exit tiA.xid ∧ ∀ i, i < tiA.m → x' i = (sfns.g tiA.j [xs tiA.m ρ0]).getD i 0)) := by
  obtain ⟨i1, i2, i3, i4, i5, i6, ia, ib, it, i8⟩ := hI
  obtain ⟨i, hi⟩ := Int.eq_ofNat_of_zero_le i2
  obtain ⟨k, hk0⟩ := Int.eq_ofNat_of_zero_le i4
  have hi' : (ρ0 0).toNat = i := by omega
  have hk' : (ρT 1).toNat = k := by omega
  rw [hi', hk'] at i8
  have m0 := mul_bd (bd_get ia (by decide) i) (bd_get ib (by decide) k)
  have t0 := bd_get it (by decide) (i + k)
  have ht : (addRowF i k (seg ρ0 2 16) (seg ρ0 18 16) (seg ρ0 50 31)).getD (i + k) 0 = (seg ρ0 50 31).getD (i + k) 0 := by rw [addRowF_get (by omega), if_neg (by omega), Int.add_zero]
  have hk : roundB Try.prog GT1 300 5 (loopAt 0 tiIn) tiA [true] none [.cmp 81 .lss (.v 1) (.l 16), .cond 81 true, .bin 82 .add .i64 (.v 0) (.v 1), .bin 83 .add .i64 (.v 0) (.v 1), .idx 83 31, .sel 84 [.v 50, .v 51, .v 52, .v 53, .v 54, .v 55, .v 56, .v 57, .v 58, .v 59, .v 60, .v 61, .v 62, .v 63, .v 64, .v 65, .v 66, .v 67, .v 68, .v 69, .v 70, .v 71, .v 72, .v 73, .v 74, .v 75, .v 76, .v 77, .v 78, .v 79, .v 80] 83, .idx 0 16, .sel 85 [.v 2, .v 3, .v 4, .v 5, .v 6, .v 7, .v 8, .v 9, .v 10, .v 11, .v 12, .v 13, .v 14, .v 15, .v 16, .v 17] 0, .idx 1 16, .sel 86 [.v 18, .v 19, .v 20, .v 21, .v 22, .v 23, .v 24, .v 25, .v 26, .v 27, .v 28, .v 29, .v 30, .v 31, .v 32, .v 33] 1, .bin 87 .mul .i64 (.v 85) (.v 86), .bin 88 .add .i64 (.v 84) (.v 87), .idx 82 31, .upd 89 [.v 50, .v 51, .v 52, .v 53, .v 54, .v 55, .v 56, .v 57, .v 58, .v 59, .v 60, .v 61, .v 62, .v 63, .v 64, .v 65, .v 66, .v 67, .v 68, .v 69, .v 70, .v 71, .v 72, .v 73, .v 74, .v 75, .v 76, .v 77, .v 78, .v 79, .v 80] 82 (.v 88), .bin 120 .add .i64 (.v 1) (.l 1)] [.v 0, .v 120, .v 2, .v 3, .v 4, .v 5, .v 6, .v 7, .v 8, .v 9, .v 10, .v 11, .v 12, .v 13, .v 14, .v 15, .v 16, .v 17, .v 18, .v 19, .v 20, .v 21, .v 22, .v 23, .v 24, .v 25, .v 26, .v 27, .v 28, .v 29, .v 30, .v 31, .v 32, .v 33, .v 34, .v 35, .v 36, .v 37, .v 38, .v 39, .v 40, .v 41, .v 42, .v 43, .v 44, .v 45, .v 46, .v 47, .v 48, .v 49, .v 89, .v 90, .v 91, .v 92, .v 93, .v 94, .v 95, .v 96, .v 97, .v 98, .v 99, .v 100, .v 101, .v 102, .v 103, .v 104, .v 105, .v 106, .v 107, .v 108, .v 109, .v 110, .v 111, .v 112, .v 113, .v 114, .v 115, .v 116, .v 117, .v 118, .v 119] = true := by kernel_rfl
  rw [hb] at hk
  refine ⟨.normal, fun j => ([ρT 0, ρT 1 + 1] ++ (seg ρ0 2 48 ++ addRowF i (k + 1) (seg ρ0 2 16) (seg ρ0 18 16) (seg ρ0 50 31))).getD j 0, RoundEnd.of (e := none) hk fun ρ hρ hd => ?_, .inl ⟨rfl, ?_⟩⟩
  · have hρ : ∀ i, i < 81 → ρ i = ρT i := hρ
    have r0 : ρ 0 = (i : Int) := by rw [hρ 0 (by decide), i1, hi]
    have r1 : ρ 1 = (k : Int) := by rw [hρ 1 (by decide), hk0]
    have sm : seg ρ 2 48 = seg ρ0 2 48 := (seg_congr fun i hi => hρ _ (by omega)).trans i6
    obtain ⟨sa, sb⟩ := thirds sm
    have sb : seg ρ 18 16 = seg ρ0 18 16 := sb
    have st : seg ρ 50 31 = addRowF i k (seg ρ0 2 16) (seg ρ0 18 16) (seg ρ0 50 31) := (seg_congr fun i hi => hρ _ (by omega)).trans i8
    simp only [D_nil, D_add, D_sub, D_mul, D_and, D_or, D_xor, D_shl, D_shr, D_andNot, D_quo, D_rem, D_add_i64, D_sub_i64, D_mul_i64, D_add_u32, D_sub_u32, D_mul_u32, D_add_u8, D_sub_u8, D_mul_u8, D_eql, D_neq, D_lss, D_leq, D_gtr, D_geq, D_not, D_conv, D_eqs, D_call, D_cond, D_need, D_idx, D_sel, D_upd, D_shv, D_beq, List.map_cons, List.map_nil, Ref.den, r0, r1] at hd
    obtain ⟨h81, h82, h83, h84, h85, h86, h87, h88, h89, h120, -⟩ := hd
    rw [IntKind.wrap_i64] at h82 h83 h120
    have e82 : ρ 82 = ((i + k : Nat) : Int) := by omega
    have e83 : ρ 83 = ((i + k : Nat) : Int) := by omega
    have e84 : ρ 84 = (seg ρ0 50 31).getD (i + k) 0 := by
      have h : ρ 84 = (seg ρ 50 31).getD (ρ 83).toNat 0 := h84
      rw [h, e83, Int.toNat_natCast, st, ht]
    have e85 : ρ 85 = (seg ρ0 2 16).getD i 0 := by
      have h : ρ 85 = (seg ρ 2 16).getD i 0 := h85
      rw [h, sa]
    have e86 : ρ 86 = (seg ρ0 18 16).getD k 0 := by
      have h : ρ 86 = (seg ρ 18 16).getD k 0 := h86
      rw [h, sb]
    rw [e85, e86, IntKind.wrap_i64] at h87
    rw [e84, IntKind.wrap_i64] at h88
    have e88 : ρ 88 = (seg ρ0 50 31).getD (i + k) 0 + (seg ρ0 2 16).getD i 0 * (seg ρ0 18 16).getD k 0 := by
      generalize (seg ρ0 2 16).getD i 0 * (seg ρ0 18 16).getD k 0 = p at *
      omega
    have s89 : seg ρ 89 31 = addRowF i (k + 1) (seg ρ0 2 16) (seg ρ0 18 16) (seg ρ0 50 31) := by
      have := set_of (ρ := ρ) (n := 89) (i := i + k) (l := seg ρ 50 31) (x := ρ 88) (fun j hj => by
        have h := h89 j (by rw [seg_len] at hj; exact hj)
        rw [e82, Int.toNat_natCast] at h; exact h)
      rw [seg_len, st, e88, ← ht] at this
      rw [this, addRowF_succ (by omega)]
    have k81 := bit_true h81 (decide_eq_true (show (k : Int) < 16 by omega))
    refine ⟨?_, fun j hj => ?_⟩
    · simp only [G_nil, G_bin, G_cmp, G_not, G_conv, G_eqs, G_call, G_cond, G_need, G_idx, G_sel, G_upd, G_shv, G_beq, List.map_cons, List.map_nil, Ref.den, r0, r1]
      refine ⟨k81, ⟨?_, ?_⟩, ⟨?_, ?_⟩, ⟨?_, ?_⟩, ⟨?_, ?_⟩, trivial⟩ <;> omega
    · show ([ρ 0, ρ 120] ++ (seg ρ 2 48 ++ seg ρ 89 31)).getD j 0 = _
      rw [s89, sm, hρ 0 (by decide), show ρ 120 = ρT 1 + 1 by omega]
  · obtain ⟨x', hx⟩ : ∃ x', x' = fun j => ([ρT 0, ρT 1 + 1] ++ (seg ρ0 2 48 ++ addRowF i (k + 1) (seg ρ0 2 16) (seg ρ0 18 16) (seg ρ0 50 31))).getD j 0 := ⟨_, rfl⟩
    rw [← hx]
    obtain ⟨x0, x1, xa, xb⟩ := after2 (a := ρT 0) (b := ρT 1 + 1) (seg_len ρ0 2 48) (addRowF_len i (k + 1) (seg ρ0 2 16) (seg ρ0 18 16) (seg ρ0 50 31)) hx
    have xb : seg x' 50 31 = _ := xb
    refine ⟨⟨x0.trans i1, i2, i3, ?_, ?_, xa, ia, ib, it, ?_⟩, ?_⟩
    · rw [x1]; omega
    · rw [x1]; omega
    · rw [xb, x1, hi', show (ρT 1 + 1).toNat = k + 1 by omega]
    · rw [x1]; omega
theorem row_end {cl : Code} (hb : loopAt 0 tiIn = some cl) {ρ0 ρT : Nat → Int} (hI : tiRI ρ0 ρT) (hlt : ¬ ρT 1 < 16) :
    ∃ e x', RoundEnd Try.prog sfns (callN Try.prog GT1 300 5) 300 cl tiA.slT tiA.memT tiA.m ρT e x' ∧ ((e = .normal ∧ tiRI ρ0 x' ∧ (16 - x' 1).toNat < (16 - ρT 1).toNat) ∨ (e = .exit tiA.xid ∧ ∀ i, i < tiA.m → x' i = (sfns.g tiA.j [xs tiA.m ρ0]).getD i 0)) := by
  obtain ⟨i1, i2, i3, i4, i5, i6, ia, ib, it, i8⟩ := hI
  have hk : roundB Try.prog GT1 300 5 (loopAt 0 tiIn) tiA [false] (some 2) [.cmp 81 .lss (.v 1) (.l 16), .cond 81 false] [.v 0, .v 1, .v 2, .v 3, .v 4, .v 5, .v 6, .v 7, .v 8, .v 9, .v 10, .v 11, .v 12, .v 13, .v 14, .v 15, .v 16, .v 17, .v 18, .v 19, .v 20, .v 21, .v 22, .v 23, .v 24, .v 25, .v 26, .v 27, .v 28, .v 29, .v 30, .v 31, .v 32, .v 33, .v 34, .v 35, .v 36, .v 37, .v 38, .v 39, .v 40, .v 41, .v 42, .v 43, .v 44, .v 45, .v 46, .v 47, .v 48, .v 49, .v 50, .v 51, .v 52, .v 53, .v 54, .v 55, .v 56, .v 57, .v 58, .v 59, .v 60, .v 61, .v 62, .v 63, .v 64, .v 65, .v 66, .v 67, .v 68, .v 69, .v 70, .v 71, .v 72, .v 73, .v 74, .v 75, .v 76, .v 77, .v 78, .v 79, .v 80] = true := by kernel_rfl
  rw [hb] at hk
  refine ⟨.exit 2, ρT, RoundEnd.of (e := some 2) hk fun ρ hρ hd => ?_, .inr ⟨rfl, fun i hi => ?_⟩⟩
  · have r1 : ρ 1 = ρT 1 := hρ 1 (by decide)
    simp only [D_nil, D_add, D_sub, D_mul, D_and, D_or, D_xor, D_shl, D_shr, D_andNot, D_quo, D_rem, D_add_i64, D_sub_i64, D_mul_i64, D_add_u32, D_sub_u32, D_mul_u32, D_add_u8, D_sub_u8, D_mul_u8, D_eql, D_neq, D_lss, D_leq, D_gtr, D_geq, D_not, D_conv, D_eqs, D_call, D_cond, D_need, D_idx, D_sel, D_upd, D_shv, D_beq, List.map_cons, List.map_nil, Ref.den, r1] at hd
    obtain ⟨h81, -⟩ := hd
    have k81 := bit_false h81 (decide_eq_false hlt)
    refine ⟨by simp only [G_nil, G_bin, G_cmp, G_not, G_conv, G_eqs, G_call, G_cond, G_need, G_idx, G_sel, G_upd, G_shv, G_beq, List.map_cons, List.map_nil, Ref.den]; exact ⟨k81, trivial⟩, fun i hi => ?_⟩
    show ([ρ 0, ρ 1] ++ (seg ρ 2 48 ++ seg ρ 50 31)).getD i 0 = _
    rw [← ti_get ρ hi, hρ i hi]
  · have hi : i < 81 := hi
    have e1 : ρT 1 = 16 := by omega
    show ρT i = (rowFL (xs 81 ρ0)).getD i 0
    unfold rowFL
    rw [xs_get (by omega), xs_drop (by omega), xs_drop (by omega), xs_drop (by omega), xs_drop (by omega), ti_get ρT hi, e1, i1, i6, i8, e1]
    rfl
theorem okG0 : CallOK Try.prog sfns (callN Try.prog GT1 300 5) := callN_ok okGT1 mixed 300 5
theorem tiRowOK {cl : Code} (hcl : loopAt 0 tiIn = some cl) : LoopOKW Try.prog sfns tiA cl := by
  refine LoopOK.toW okG0 mixed (lf := 300) ⟨tiRI, fun ρ => (16 - ρ 1).toNat, fun ρ0 hT hp => ?_, fun ρ0 ρT hT hI => ?_⟩
  · have hp : rowFP (xs 81 ρ0) := hp
    unfold rowFP at hp
    rw [xs_get (by omega), xs_get (by omega), xs_drop (by omega), xs_drop (by omega), xs_drop (by omega)] at hp
    obtain ⟨p1, p2, p3, p4, p5, p6⟩ := hp
    exact ⟨rfl, p1, p2, by omega, by omega, rfl, p4, p5, p6, by rw [p3]; exact (addRowF_zero (seg_len _ _ _)).symm⟩
  · by_cases h : ρT 1 < 16
    · exact row_go hcl hI h
    · exact row_end hcl hI h
theorem tiInsOK : ∀ i t cl, [tiA][i]? = some t → loopAt i tiIn = some cl → LoopOKW Try.prog sfns t cl := fun i t cl h1 h2 => by
  match i, h1 with
  | 0, h1 => cases h1; exact tiRowOK h2
  | n + 1, h1 => simp at h1
/-- All rows: the state, so far. -/
def tiI (ρ0 ρ : Nat → Int) : Prop :=
  0 ≤ ρ 0 ∧ ρ 0 ≤ 16 ∧ seg ρ 1 48 = seg ρ0 1 48 ∧ seg ρ0 49 31 = List.replicate 31 0 ∧ Bd 65573 (seg ρ0 1 16) ∧ Bd 65573 (seg ρ0 17 16) ∧ seg ρ 49 31 = timN (seg ρ0 1 16) (seg ρ0 17 16) (List.replicate 31 0) (ρ 0).toNat
theorem ti_go {ρ0 ρT : Nat → Int} (hI : tiI ρ0 ρT) (hlt : ρT 0 < 16) :
    ∃ e x', RoundEndW Try.prog sfns tiIn tiT.slT tiT.memT tiT.m ρT e x' ∧ ((e = .normal ∧ tiI ρ0 x' ∧ (16 - x' 0).toNat < (16 - ρT 0).toNat) ∨ (e = .exit tiT.xid ∧ ∀ i, i < tiT.m → x' i = (sfns.g tiT.j [xs tiT.m ρ0]).getD i 0)) := by
  obtain ⟨i1, i2, i3, i4, ia, ib, i5⟩ := hI
  obtain ⟨n, hn⟩ := Int.eq_ofNat_of_zero_le i1
  have hn' : (ρT 0).toNat = n := by omega
  rw [hn'] at i5
  have hok := timN_ok (seg_len _ _ _) (seg_len _ _ _) ia ib n (by omega)
  obtain ⟨u, hu⟩ : ∃ u, u = timN (seg ρ0 1 16) (seg ρ0 17 16) (List.replicate 31 0) n := ⟨_, rfl⟩
  rw [← hu] at hok i5
  obtain ⟨o1, o2, o4⟩ := hok
  have osm : Bd 1099511627776 u := bd_mono o2 (by omega)
  have hk : roundTB Try.prog GT1 300 5 [tiA] (some tiIn) tiT [true] none [.cmp 80 .lss (.v 0) (.l 16), .cond 80 true, .need 61 [[.v 0, .l 0, .v 1, .v 2, .v 3, .v 4, .v 5, .v 6, .v 7, .v 8, .v 9, .v 10, .v 11, .v 12, .v 13, .v 14, .v 15, .v 16, .v 17, .v 18, .v 19, .v 20, .v 21, .v 22, .v 23, .v 24, .v 25, .v 26, .v 27, .v 28, .v 29, .v 30, .v 31, .v 32, .v 33, .v 34, .v 35, .v 36, .v 37, .v 38, .v 39, .v 40, .v 41, .v 42, .v 43, .v 44, .v 45, .v 46, .v 47, .v 48, .v 49, .v 50, .v 51, .v 52, .v 53, .v 54, .v 55, .v 56, .v 57, .v 58, .v 59, .v 60, .v 61, .v 62, .v 63, .v 64, .v 65, .v 66, .v 67, .v 68, .v 69, .v 70, .v 71, .v 72, .v 73, .v 74, .v 75, .v 76, .v 77, .v 78, .v 79]], .call 81 61 [[.v 0, .l 0, .v 1, .v 2, .v 3, .v 4, .v 5, .v 6, .v 7, .v 8, .v 9, .v 10, .v 11, .v 12, .v 13, .v 14, .v 15, .v 16, .v 17, .v 18, .v 19, .v 20, .v 21, .v 22, .v 23, .v 24, .v 25, .v 26, .v 27, .v 28, .v 29, .v 30, .v 31, .v 32, .v 33, .v 34, .v 35, .v 36, .v 37, .v 38, .v 39, .v 40, .v 41, .v 42, .v 43, .v 44, .v 45, .v 46, .v 47, .v 48, .v 49, .v 50, .v 51, .v 52, .v 53, .v 54, .v 55, .v 56, .v 57, .v 58, .v 59, .v 60, .v 61, .v 62, .v 63, .v 64, .v 65, .v 66, .v 67, .v 68, .v 69, .v 70, .v 71, .v 72, .v 73, .v 74, .v 75, .v 76, .v 77, .v 78, .v 79]] 81, .bin 162 .add .i64 (.v 81) (.l 1)] [.v 162, .v 83, .v 84, .v 85, .v 86, .v 87, .v 88, .v 89, .v 90, .v 91, .v 92, .v 93, .v 94, .v 95, .v 96, .v 97, .v 98, .v 99, .v 100, .v 101, .v 102, .v 103, .v 104, .v 105, .v 106, .v 107, .v 108, .v 109, .v 110, .v 111, .v 112, .v 113, .v 114, .v 115, .v 116, .v 117, .v 118, .v 119, .v 120, .v 121, .v 122, .v 123, .v 124, .v 125, .v 126, .v 127, .v 128, .v 129, .v 130, .v 131, .v 132, .v 133, .v 134, .v 135, .v 136, .v 137, .v 138, .v 139, .v 140, .v 141, .v 142, .v 143, .v 144, .v 145, .v 146, .v 147, .v 148, .v 149, .v 150, .v 151, .v 152, .v 153, .v 154, .v 155, .v 156, .v 157, .v 158, .v 159, .v 160, .v 161] = true := by kernel_rfl
  refine ⟨.normal, fun j => ([ρT 0 + 1] ++ (seg ρ0 1 48 ++ addRowF n 16 (seg ρ0 1 16) (seg ρ0 17 16) u)).getD j 0, RoundEndW.of okGT1 mixed tiInsOK (e := none) hk fun ρ hρ hd => ?_, .inl ⟨rfl, ?_⟩⟩
  · have hρ : ∀ i, i < 80 → ρ i = ρT i := hρ
    have r0 : ρ 0 = (n : Int) := by rw [hρ 0 (by decide), hn]
    have sm : seg ρ 1 48 = seg ρ0 1 48 := (seg_congr fun i hi => hρ _ (by omega)).trans i3
    obtain ⟨sa, sb⟩ := thirds sm
    have sb : seg ρ 17 16 = seg ρ0 17 16 := sb
    have st : seg ρ 49 31 = u := (seg_congr fun i hi => hρ _ (by omega)).trans i5
    simp only [D_nil, D_add, D_sub, D_mul, D_and, D_or, D_xor, D_shl, D_shr, D_andNot, D_quo, D_rem, D_add_i64, D_sub_i64, D_mul_i64, D_add_u32, D_sub_u32, D_mul_u32, D_add_u8, D_sub_u8, D_mul_u8, D_eql, D_neq, D_lss, D_leq, D_gtr, D_geq, D_not, D_conv, D_eqs, D_call, D_cond, D_need, D_idx, D_sel, D_upd, D_shv, D_beq, List.map_cons, List.map_nil, Ref.den] at hd
    obtain ⟨h80, h81, h162, -⟩ := hd
    have s81 : ∀ i, i < 81 → ρ (81 + i) = ([ρ 0, 16] ++ (seg ρ 1 48 ++ addRowF (ρ 0).toNat 16 (seg ρ 1 16) (seg ρ 17 16) (seg ρ 49 31))).getD i 0 := fun i hi => h81 i hi
    rw [sm, sa, sb, st, r0, Int.toNat_natCast] at s81
    obtain ⟨v0, v1, va, vb⟩ := after2 (a := (n : Int)) (b := 16) (seg_len ρ0 1 48) (addRowF_len n 16 (seg ρ0 1 16) (seg ρ0 17 16) u) rfl
    have q0 : ρ 81 = n := s81 0 (by decide)
    have qa : seg ρ 83 48 = seg ρ0 1 48 := by
      rw [← va]; exact seg_congr fun i hi => by rw [show 83 + i = 81 + (2 + i) by omega]; exact s81 _ (by omega)
    have qb : seg ρ 131 31 = addRowF n 16 (seg ρ0 1 16) (seg ρ0 17 16) u := by
      rw [← vb]; exact seg_congr fun i hi => by rw [show 131 + i = 81 + (50 + i) by omega]; exact s81 _ (by omega)
    rw [q0, IntKind.wrap_i64] at h162
    have k80 := bit_true h80 (decide_eq_true (show ρ 0 < 16 by omega))
    refine ⟨?_, fun j hj => ?_⟩
    · simp only [G_nil, G_bin, G_cmp, G_not, G_conv, G_eqs, G_call, G_cond, G_need, G_idx, G_sel, G_upd, G_shv, G_beq, List.map_cons, List.map_nil, Ref.den]
      refine ⟨k80, ?_, trivial⟩
      show rowFP ([ρ 0, 0] ++ (seg ρ 1 48 ++ seg ρ 49 31))
      refine ⟨?_, ?_, rfl, ?_, ?_, ?_⟩
      · show 0 ≤ ρ 0; omega
      · show ρ 0 < 16; omega
      · show Bd 65573 (seg ρ 1 16); rw [sa]; exact ia
      · show Bd 65573 (seg ρ 17 16); rw [sb]; exact ib
      · show Bd 1099511627776 (seg ρ 49 31); rw [st]; exact osm
    · show ([ρ 162] ++ (seg ρ 83 48 ++ seg ρ 131 31)).getD j 0 = _
      rw [qa, qb, show ρ 162 = ρT 0 + 1 by omega]
  · obtain ⟨x', hx⟩ : ∃ x', x' = fun j => ([ρT 0 + 1] ++ (seg ρ0 1 48 ++ addRowF n 16 (seg ρ0 1 16) (seg ρ0 17 16) u)).getD j 0 := ⟨_, rfl⟩
    rw [← hx]
    have x0 : x' 0 = ρT 0 + 1 := by rw [hx]; rfl
    have xa : seg x' 1 48 = seg ρ0 1 48 := by
      have := seg_mid [ρT 0 + 1] (seg ρ0 1 48) (addRowF n 16 (seg ρ0 1 16) (seg ρ0 17 16) u)
      rw [seg_len] at this; rw [hx]; exact this
    have xb : seg x' 49 31 = addRowF n 16 (seg ρ0 1 16) (seg ρ0 17 16) u := by
      have := seg_end [ρT 0 + 1] (seg ρ0 1 48) (addRowF n 16 (seg ρ0 1 16) (seg ρ0 17 16) u)
      rw [seg_len, addRowF_len] at this; rw [hx]; exact this
    refine ⟨⟨by rw [x0]; omega, by rw [x0]; omega, xa, i4, ia, ib, ?_⟩, by rw [x0]; omega⟩
    rw [xb, x0, show (ρT 0 + 1).toNat = n + 1 by omega, hu]; rfl
theorem ti_end {ρ0 ρT : Nat → Int} (hI : tiI ρ0 ρT) (hlt : ¬ ρT 0 < 16) :
    ∃ e x', RoundEndW Try.prog sfns tiIn tiT.slT tiT.memT tiT.m ρT e x' ∧ ((e = .normal ∧ tiI ρ0 x' ∧ (16 - x' 0).toNat < (16 - ρT 0).toNat) ∨ (e = .exit tiT.xid ∧ ∀ i, i < tiT.m → x' i = (sfns.g tiT.j [xs tiT.m ρ0]).getD i 0)) := by
  obtain ⟨i1, i2, i3, i4, ia, ib, i5⟩ := hI
  have hk : roundTB Try.prog GT1 300 5 [tiA] (some tiIn) tiT [false] (some 0) [.cmp 80 .lss (.v 0) (.l 16), .cond 80 false] [.v 0, .v 1, .v 2, .v 3, .v 4, .v 5, .v 6, .v 7, .v 8, .v 9, .v 10, .v 11, .v 12, .v 13, .v 14, .v 15, .v 16, .v 17, .v 18, .v 19, .v 20, .v 21, .v 22, .v 23, .v 24, .v 25, .v 26, .v 27, .v 28, .v 29, .v 30, .v 31, .v 32, .v 33, .v 34, .v 35, .v 36, .v 37, .v 38, .v 39, .v 40, .v 41, .v 42, .v 43, .v 44, .v 45, .v 46, .v 47, .v 48, .v 49, .v 50, .v 51, .v 52, .v 53, .v 54, .v 55, .v 56, .v 57, .v 58, .v 59, .v 60, .v 61, .v 62, .v 63, .v 64, .v 65, .v 66, .v 67, .v 68, .v 69, .v 70, .v 71, .v 72, .v 73, .v 74, .v 75, .v 76, .v 77, .v 78, .v 79] = true := by kernel_rfl
  refine ⟨.exit 0, ρT, RoundEndW.of okGT1 mixed tiInsOK (e := some 0) hk fun ρ hρ hd => ?_, .inr ⟨rfl, fun i hi => ?_⟩⟩
  · have r0 : ρ 0 = ρT 0 := hρ 0 (by decide)
    simp only [D_nil, D_add, D_sub, D_mul, D_and, D_or, D_xor, D_shl, D_shr, D_andNot, D_quo, D_rem, D_add_i64, D_sub_i64, D_mul_i64, D_add_u32, D_sub_u32, D_mul_u32, D_add_u8, D_sub_u8, D_mul_u8, D_eql, D_neq, D_lss, D_leq, D_gtr, D_geq, D_not, D_conv, D_eqs, D_call, D_cond, D_need, D_idx, D_sel, D_upd, D_shv, D_beq, List.map_cons, List.map_nil, Ref.den, r0] at hd
    obtain ⟨h80, -⟩ := hd
    have k80 := bit_false h80 (decide_eq_false hlt)
    refine ⟨by simp only [G_nil, G_bin, G_cmp, G_not, G_conv, G_eqs, G_call, G_cond, G_need, G_idx, G_sel, G_upd, G_shv, G_beq, List.map_cons, List.map_nil, Ref.den]; exact ⟨k80, trivial⟩, fun i hi => ?_⟩
    show ([ρ 0] ++ (seg ρ 1 48 ++ seg ρ 49 31)).getD i 0 = _
    rw [← ti_get' ρ hi, hρ i hi]
  · have hi : i < 80 := hi
    have e1 : ρT 0 = 16 := by omega
    show ρT i = (timL (xs 80 ρ0)).getD i 0
    unfold timL
    rw [xs_drop (by omega), xs_drop (by omega), xs_drop (by omega), xs_drop (by omega), ti_get' ρT hi, e1, i3, i4, i5, e1]
    rfl
theorem fold_step {x y m o : Int} (hx : -70368744177664 ≤ x ∧ x ≤ 70368744177664) (hy : -70368744177664 ≤ y ∧ y ≤ 70368744177664) (h1 : m = IntKind.i64.wrap (38 * y)) (h2 : o = IntKind.i64.wrap (x + m)) : o = x + 38 * y := by
  rw [IntKind.wrap_i64] at h1 h2; omega
theorem fold_list {l : List Int} {t0 t1 t2 t3 t4 t5 t6 t7 t8 t9 t10 t11 t12 t13 t14 t15 u0 u1 u2 u3 u4 u5 u6 u7 u8 u9 u10 u11 u12 u13 u14 : Int} (h : l = [t0, t1, t2, t3, t4, t5, t6, t7, t8, t9, t10, t11, t12, t13, t14, t15, u0, u1, u2, u3, u4, u5, u6, u7, u8, u9, u10, u11, u12, u13, u14]) :
    foldF l = [t0 + 38 * u0, t1 + 38 * u1, t2 + 38 * u2, t3 + 38 * u3, t4 + 38 * u4, t5 + 38 * u5, t6 + 38 * u6, t7 + 38 * u7, t8 + 38 * u8, t9 + 38 * u9, t10 + 38 * u10, t11 + 38 * u11, t12 + 38 * u12, t13 + 38 * u13, t14 + 38 * u14, t15] := by subst h; rfl
theorem okFTimes : CtrOK Try.prog sfns cFTimes := by
  refine CtrOK.ofW (t := tiT) (k := 0) (fn := Try.f75) (body := tiBody) okGT1 mixed (lf := 300) (d := 5) (by kernel_rfl) (by kernel_rfl) ?_ rfl fun w vs xs ha hp => ?_
  · intro cl hcl
    have hcl' : tiIn = cl := by unfold tiIn; rw [hcl]; rfl
    subst hcl'
    refine ⟨tiI, fun ρ => (16 - ρ 0).toNat, fun ρ0 hT hp => ?_, fun ρ0 ρT hT hI => ?_⟩
    · have hp : timP (Go.Sx.xs 80 ρ0) := hp
      unfold timP at hp
      rw [xs_get (by omega), xs_drop (by omega), xs_drop (by omega), xs_drop (by omega)] at hp
      obtain ⟨p1, p2, p3, p4⟩ := hp
      exact ⟨by omega, by omega, rfl, p2, p3, p4, by rw [p1, p2]; rfl⟩
    · by_cases h : ρT 0 < 16
      · exact ti_go hI h
      · exact ti_end hI h
  · obtain ⟨v, u, a, b, rfl, rfl, ⟨la, -, ia⟩, ⟨lb, -, ib⟩⟩ := open2 ha
    obtain ⟨fa, fb⟩ : FF a ∧ FF b := hp
    have bA := ff_bd fa
    have bB := ff_bd fb
    refine WayL.of (dec := []) (fs := [.need 60 [[.l 0, .v 0, .v 1, .v 2, .v 3, .v 4, .v 5, .v 6, .v 7, .v 8, .v 9, .v 10, .v 11, .v 12, .v 13, .v 14, .v 15, .v 16, .v 17, .v 18, .v 19, .v 20, .v 21, .v 22, .v 23, .v 24, .v 25, .v 26, .v 27, .v 28, .v 29, .v 30, .v 31, .l 0, .l 0, .l 0, .l 0, .l 0, .l 0, .l 0, .l 0, .l 0, .l 0, .l 0, .l 0, .l 0, .l 0, .l 0, .l 0, .l 0, .l 0, .l 0, .l 0, .l 0, .l 0, .l 0, .l 0, .l 0, .l 0, .l 0, .l 0, .l 0, .l 0, .l 0, .l 0, .l 0, .l 0, .l 0, .l 0, .l 0, .l 0, .l 0, .l 0, .l 0, .l 0, .l 0, .l 0, .l 0, .l 0, .l 0]], .call 32 60 [[.l 0, .v 0, .v 1, .v 2, .v 3, .v 4, .v 5, .v 6, .v 7, .v 8, .v 9, .v 10, .v 11, .v 12, .v 13, .v 14, .v 15, .v 16, .v 17, .v 18, .v 19, .v 20, .v 21, .v 22, .v 23, .v 24, .v 25, .v 26, .v 27, .v 28, .v 29, .v 30, .v 31, .l 0, .l 0, .l 0, .l 0, .l 0, .l 0, .l 0, .l 0, .l 0, .l 0, .l 0, .l 0, .l 0, .l 0, .l 0, .l 0, .l 0, .l 0, .l 0, .l 0, .l 0, .l 0, .l 0, .l 0, .l 0, .l 0, .l 0, .l 0, .l 0, .l 0, .l 0, .l 0, .l 0, .l 0, .l 0, .l 0, .l 0, .l 0, .l 0, .l 0, .l 0, .l 0, .l 0, .l 0, .l 0, .l 0, .l 0]] 80, .bin 112 .mul .i64 (.l 38) (.v 97), .bin 113 .add .i64 (.v 81) (.v 112), .bin 114 .mul .i64 (.l 38) (.v 98), .bin 115 .add .i64 (.v 82) (.v 114), .bin 116 .mul .i64 (.l 38) (.v 99), .bin 117 .add .i64 (.v 83) (.v 116), .bin 118 .mul .i64 (.l 38) (.v 100), .bin 119 .add .i64 (.v 84) (.v 118), .bin 120 .mul .i64 (.l 38) (.v 101), .bin 121 .add .i64 (.v 85) (.v 120), .bin 122 .mul .i64 (.l 38) (.v 102), .bin 123 .add .i64 (.v 86) (.v 122), .bin 124 .mul .i64 (.l 38) (.v 103), .bin 125 .add .i64 (.v 87) (.v 124), .bin 126 .mul .i64 (.l 38) (.v 104), .bin 127 .add .i64 (.v 88) (.v 126), .bin 128 .mul .i64 (.l 38) (.v 105), .bin 129 .add .i64 (.v 89) (.v 128), .bin 130 .mul .i64 (.l 38) (.v 106), .bin 131 .add .i64 (.v 90) (.v 130), .bin 132 .mul .i64 (.l 38) (.v 107), .bin 133 .add .i64 (.v 91) (.v 132), .bin 134 .mul .i64 (.l 38) (.v 108), .bin 135 .add .i64 (.v 92) (.v 134), .bin 136 .mul .i64 (.l 38) (.v 109), .bin 137 .add .i64 (.v 93) (.v 136), .bin 138 .mul .i64 (.l 38) (.v 110), .bin 139 .add .i64 (.v 94) (.v 138), .bin 140 .mul .i64 (.l 38) (.v 111), .bin 141 .add .i64 (.v 95) (.v 140), .need 50 [[.v 113, .v 115, .v 117, .v 119, .v 121, .v 123, .v 125, .v 127, .v 129, .v 131, .v 133, .v 135, .v 137, .v 139, .v 141, .v 96]], .call 142 50 [[.v 113, .v 115, .v 117, .v 119, .v 121, .v 123, .v 125, .v 127, .v 129, .v 131, .v 133, .v 135, .v 137, .v 139, .v 141, .v 96]] 16, .need 50 [[.v 142, .v 143, .v 144, .v 145, .v 146, .v 147, .v 148, .v 149, .v 150, .v 151, .v 152, .v 153, .v 154, .v 155, .v 156, .v 157]], .call 158 50 [[.v 142, .v 143, .v 144, .v 145, .v 146, .v 147, .v 148, .v 149, .v 150, .v 151, .v 152, .v 153, .v 154, .v 155, .v 156, .v 157]] 16]) (refs := [.v 158, .v 159, .v 160, .v 161, .v 162, .v 163, .v 164, .v 165, .v 166, .v 167, .v 168, .v 169, .v 170, .v 171, .v 172, .v 173]) (by kernel_rfl) fun ρ hρ hd => ?_
    have ea : seg ρ 0 16 = a := seg_of (fun i hi => by
      rw [Nat.zero_add, hρ i (by show i < 32; omega)]
      simp only [flat, List.flatten_cons, List.flatten_nil, List.append_nil, List.getD_eq_getElem?_getD]
      rw [List.getElem?_append_left (by omega)]) la
    have eb : seg ρ 16 16 = b := seg_of (fun i hi => by
      rw [hρ (16 + i) (by show 16 + i < 32; omega)]
      simp only [flat, List.flatten_cons, List.flatten_nil, List.append_nil, List.getD_eq_getElem?_getD]
      rw [List.getElem?_append_right (by omega), la, Nat.add_sub_cancel_left]) lb
    simp only [D_nil, D_add, D_sub, D_mul, D_and, D_or, D_xor, D_shl, D_shr, D_andNot, D_quo, D_rem, D_add_i64, D_sub_i64, D_mul_i64, D_add_u32, D_sub_u32, D_mul_u32, D_add_u8, D_sub_u8, D_mul_u8, D_eql, D_neq, D_lss, D_leq, D_gtr, D_geq, D_not, D_conv, D_eqs, D_call, D_cond, D_need, D_idx, D_sel, D_upd, D_shv, D_beq, List.map_cons, List.map_nil, Ref.den] at hd
    obtain ⟨h32, h112, h113, h114, h115, h116, h117, h118, h119, h120, h121, h122, h123, h124, h125, h126, h127, h128, h129, h130, h131, h132, h133, h134, h135, h136, h137, h138, h139, h140, h141, h142, h158, -⟩ := hd
    have s32 : ∀ i, i < 80 → ρ (32 + i) = ([16] ++ ((seg ρ 0 16 ++ (seg ρ 16 16 ++ List.replicate 16 0)) ++ timN (seg ρ 0 16) (seg ρ 16 16) (List.replicate 31 0) 16)).getD i 0 := fun i hi => h32 i hi
    rw [ea, eb] at s32
    have hok := timN_ok la lb bA bB 16 (by omega)
    obtain ⟨z, hz⟩ : ∃ z, z = timN a b (List.replicate 31 0) 16 := ⟨_, rfl⟩
    rw [← hz] at s32 hok
    obtain ⟨o1, o2, -⟩ := hok
    have o2 : Bd 70368744177664 z := bd_mono o2 (by decide)
    have l2 : (a ++ (b ++ List.replicate 16 (0 : Int))).length = 48 := by rw [List.length_append, List.length_append, List.length_replicate]; omega
    have st : seg ρ 81 31 = z := by
      have := seg_end [16] (a ++ (b ++ List.replicate 16 0)) z
      rw [l2, o1] at this
      rw [← this]
      exact seg_congr fun i hi => by rw [show 81 + i = 32 + (49 + i) by omega]; exact s32 _ (by omega)
    have g : ∀ i, i < 31 → -70368744177664 ≤ ρ (81 + i) ∧ ρ (81 + i) ≤ 70368744177664 := fun i hi => by
      have h := bd_get (show Bd 70368744177664 (seg ρ 81 31) by rw [st]; exact o2) (by decide) i
      rwa [seg_get hi] at h
    have p0 := fold_step (g 0 (by decide)) (g 16 (by decide)) h112 h113
    have p1 := fold_step (g 1 (by decide)) (g 17 (by decide)) h114 h115
    have p2 := fold_step (g 2 (by decide)) (g 18 (by decide)) h116 h117
    have p3 := fold_step (g 3 (by decide)) (g 19 (by decide)) h118 h119
    have p4 := fold_step (g 4 (by decide)) (g 20 (by decide)) h120 h121
    have p5 := fold_step (g 5 (by decide)) (g 21 (by decide)) h122 h123
    have p6 := fold_step (g 6 (by decide)) (g 22 (by decide)) h124 h125
    have p7 := fold_step (g 7 (by decide)) (g 23 (by decide)) h126 h127
    have p8 := fold_step (g 8 (by decide)) (g 24 (by decide)) h128 h129
    have p9 := fold_step (g 9 (by decide)) (g 25 (by decide)) h130 h131
    have p10 := fold_step (g 10 (by decide)) (g 26 (by decide)) h132 h133
    have p11 := fold_step (g 11 (by decide)) (g 27 (by decide)) h134 h135
    have p12 := fold_step (g 12 (by decide)) (g 28 (by decide)) h136 h137
    have p13 := fold_step (g 13 (by decide)) (g 29 (by decide)) h138 h139
    have p14 := fold_step (g 14 (by decide)) (g 30 (by decide)) h140 h141
    have sf : [ρ 113, ρ 115, ρ 117, ρ 119, ρ 121, ρ 123, ρ 125, ρ 127, ρ 129, ρ 131, ρ 133, ρ 135, ρ 137, ρ 139, ρ 141, ρ 96] = foldF z := by
      rw [fold_list (l := z) st.symm, p0, p1, p2, p3, p4, p5, p6, p7, p8, p9, p10, p11, p12, p13, p14]
    have hb : Bd 4398046511104 [ρ 113, ρ 115, ρ 117, ρ 119, ρ 121, ρ 123, ρ 125, ρ 127, ρ 129, ρ 131, ρ 133, ρ 135, ρ 137, ρ 139, ρ 141, ρ 96] := by
      rw [sf]
      have hzb : Bd 68797093264 z := by rw [hz]; exact bd_mono (timN_ok la lb bA bB 16 (by omega)).2.1 (by decide)
      exact bd_mono (foldF_bd (m := 68797093264) (by decide) hzb) (by decide)
    obtain ⟨r1, r2, r3⟩ := twice (n := 142) (by rfl) hb h142 h158
    refine ⟨?_, ?_⟩
    · simp only [G_nil, G_bin, G_cmp, G_not, G_conv, G_eqs, G_call, G_cond, G_need, G_idx, G_sel, G_upd, G_shv, G_beq, List.map_cons, List.map_nil, Ref.den]
      refine ⟨⟨rfl, rfl, ?_, ?_⟩, r2, r3, trivial⟩
      · show Bd 65573 (seg ρ 0 16); rw [ea]; exact bA
      · show Bd 65573 (seg ρ 16 16); rw [eb]; exact bB
    · show seg ρ 158 16 = mulF a b
      rw [r1, sf, hz]; rfl
end Go.Proofs.Ytfobnajgnnccmaa

namespace Go.Bx
theorem dv_small {x : Int} (h : 0 ≤ x ∧ x < PP) : dv 256 (dg 256 32 x) = x := by have hL := PP_lt; exact dv_dg_of (by decide) h.1 (by omega)
theorem dgn32 {x y : Int} (h : dg 256 32 x = dg 256 32 y) (hx : 0 ≤ x ∧ x < PP) (hy : 0 ≤ y ∧ y < PP) : x = y := by
  have := congrArg (dv 256) h; rwa [dv_small hx, dv_small hy] at this
theorem dg0 (x : Int) : (dg 256 32 x).getD 0 0 = x % 256 := rfl
theorem sq_pos {A : Int} : 0 ≤ A % PP ∧ A % PP < PP := rmod A
theorem root_two {A r : Int} (br : 0 ≤ r ∧ r < PP) (h : (r * r) % PP = (A * A) % PP) : r = A % PP ∨ r = (0 - A) % PP := by
  rcases two_roots (P := PP) (p := PP.toNat) (by decide) p25519 h with h | h
  · exact .inl (by rw [← h, Int.emod_eq_of_lt br.1 br.2])
  · exact .inr (by rw [Int.zero_sub, ← h, Int.emod_eq_of_lt br.1 br.2])
end Go.Bx
namespace Go.Proofs.Ytfobnajgnnccmaa
open Go.RowKit Go.Bx Go.Sx
set_option linter.unusedSimpArgs false
theorem list_seg (ρ : Nat → Int) (n : Nat) : [ρ n, ρ (n + 1), ρ (n + 2), ρ (n + 3), ρ (n + 4), ρ (n + 5), ρ (n + 6), ρ (n + 7), ρ (n + 8), ρ (n + 9), ρ (n + 10), ρ (n + 11), ρ (n + 12), ρ (n + 13), ρ (n + 14), ρ (n + 15), ρ (n + 16), ρ (n + 17), ρ (n + 18), ρ (n + 19), ρ (n + 20), ρ (n + 21), ρ (n + 22), ρ (n + 23), ρ (n + 24), ρ (n + 25), ρ (n + 26), ρ (n + 27), ρ (n + 28), ρ (n + 29), ρ (n + 30), ρ (n + 31)] = seg ρ n 32 := rfl
theorem sg39 (a : List Int) : sfns.g 39 [a] = (if timesZ (rootT (dv 256 a)) (rootT (dv 256 a)) % PP = dv 256 a % PP then dg 256 32 (eroot (dv 256 a)) ++ [1] else dg 256 32 0 ++ [0]) := by simp only [sfns, sg, eroot]
theorem seg_bit {ρ : Nat → Int} {n : Nat} {l : List Int} {b : Int} (hl : l.length = 32) (h : ∀ i, i < 33 → ρ (n + i) = (l ++ [b]).getD i 0) : seg ρ n 32 = l ∧ ρ (n + 32) = b := by
  refine ⟨seg_of (fun i hi => ?_) hl, ?_⟩
  · rw [h i (by omega)]
    simp only [List.getD_eq_getElem?_getD]
    rw [List.getElem?_append_left (by omega)]
  · rw [h 32 (by omega)]
    simp only [List.getD_eq_getElem?_getD]
    rw [List.getElem?_append_right (by omega), hl]; rfl
theorem root_seg {ρ : Nat → Int} {n : Nat} {l : List Int} (h : ∀ i, i < 33 → ρ (n + i) = (sfns.g 39 [l]).getD i 0) :
    ((rootT (dv 256 l) * rootT (dv 256 l)) % PP = dv 256 l % PP → seg ρ n 32 = dg 256 32 (eroot (dv 256 l)) ∧ ρ (n + 32) = 1) ∧ (¬ (rootT (dv 256 l) * rootT (dv 256 l)) % PP = dv 256 l % PP → seg ρ n 32 = dg 256 32 0 ∧ ρ (n + 32) = 0) := by
  rw [sg39, timesZ_mod] at h
  generalize dv 256 l = A at *
  generalize rootT A = R at *
  refine ⟨fun c => ?_, fun c => ?_⟩
  · rw [if_pos c] at h; exact seg_bit (dg_len _ _ _) h
  · rw [if_neg c] at h; exact seg_bit (dg_len _ _ _) h
theorem bit_one {x : Int} (h : x = 1) : decide (x ≠ 0) = true := by rw [h]; rfl
theorem bit_zero {x : Int} (h : x = 0) : decide (x ≠ 0) = false := by rw [h]; rfl
theorem low_bit {l : List Int} {r x y : Int} (ev : r % 2 = 0) (hx : x = l.getD 0 0) (hl : l = dg 256 32 r) (h1 : binZ .and .u8 x 1 = some y) : y = 0 := by
  rw [hl, dg0] at hx
  have e : y = x % 2 ^ 1 := k_and 1 (by decide) rfl h1
  rw [e, hx]
  simp only [Int.reducePow]; omega
theorem even_first {l : List Int} {r x y z : Int} {dz : Decidable (y ≠ 0)} (_ : dv 256 l = r) (ev : r % 2 = 0) (hx : x = l.getD 0 0) (hl : l = dg 256 32 r) (h1 : binZ .and .u8 x 1 = some y) (h2 : z = b2i (@decide (y ≠ 0) dz)) : decide (z ≠ 0) = false := by
  have h0 := low_bit ev hx hl h1
  have e : z = 0 := by rw [h2, decide_eq_false (fun h => h h0)]; rfl
  rw [e]; rfl
theorem even_first' {l : List Int} {r x y z : Int} {dz : Decidable (y = 0)} (_ : dv 256 l = r) (ev : r % 2 = 0) (hx : x = l.getD 0 0) (hl : l = dg 256 32 r) (h1 : binZ .and .u8 x 1 = some y) (h2 : z = b2i (@decide (y = 0) dz)) : decide (z ≠ 0) = true := by
  have h0 := low_bit ev hx hl h1
  have e : z = 1 := by rw [h2, decide_eq_true h0]; rfl
  rw [e]; rfl
end Go.Proofs.Ytfobnajgnnccmaa
namespace Go.Proofs.Ytfobnajgnnccmaa.fieldRoots
open Go.RowKit Go.Bx Go.Sx
end Go.Proofs.Ytfobnajgnnccmaa.fieldRoots

section
namespace Go.Bx
theorem bytes_cons {x o p : Int} {l os : List Int} (ho : o = x % 256) (hp : p = x / 256 % 256) (h : os = bytes16 l) : o :: p :: os = bytes16 (x :: l) := by rw [ho, hp, h]; rfl
theorem pF_dv : dv 65536 pF = PP := by decide +kernel
theorem Q16 : (65536 : Int) ^ 16 = WW := by decide +kernel
theorem top_neg {l : List Int} {r : Int} (h : Dig16 l) : dv 65536 (l ++ [r]) < 0 ↔ r < 0 := by
  rw [dv_append]
  have b := dig16_dv h
  simp only [dv, Int.mul_zero, Int.add_zero]
  generalize (65536 : Int) ^ l.length = w at *
  constructor
  · intro h
    rcases Int.lt_or_le r 0 with q | q
    · exact q
    · have := Int.mul_nonneg (show 0 ≤ w by omega) q; omega
  · intro h
    have : w * (r + 1) ≤ 0 := Int.mul_nonpos_of_nonneg_of_nonpos (by omega) (by omega)
    rw [Int.mul_add] at this; omega
theorem dig16_app {l : List Int} {r : Int} (h : Dig16 l) (h0 : 0 ≤ r) (h1 : r < 65536) : Dig16 (l ++ [r]) := fun z hz => by
  rcases List.mem_append.1 hz with hz | hz
  · exact h z hz
  · rcases List.mem_singleton.1 hz with rfl; exact ⟨h0, h1⟩
theorem carL_mod {l : List Int} (h : l.length = 16) : dv 65536 (carL l) % PP = dv 65536 l % PP := by
  rw [carL_dv h, Q16]
  have e : dv 65536 l - WW * carOut 0 l + 38 * carOut 0 l = dv 65536 l + PP * (-2 * carOut 0 l) := by
    simp only [WW, PP]; omega
  rw [e, Int.add_mul_emod_self_left]
theorem sub_mod1 (x : Int) : (x - PP) % PP = x % PP := by
  rw [show x - PP = x + PP * (-1) by omega, Int.add_mul_emod_self_left]
end Go.Bx
namespace Go.Proofs.Ytfobnajgnnccmaa
open Go.RowKit Go.Bx Go.Sx
set_option linter.unusedSimpArgs false
set_option linter.unusedVariables false
set_option maxRecDepth 100000
def cOut : Ctr := ⟨52, 52, [.arr .i64 16], [.arr .u8 32]⟩
theorem bor_step {x p b r s b' m : Int} (hx : 0 ≤ x ∧ x < 65536) (hp : 0 ≤ p ∧ p ≤ 65535) (hb : b = 0 ∨ b = 1) (hr : r = x - p - b) (h1 : binZ .shr .i64 r 16 = some s) (h2 : binZ .and .i64 s 1 = some b') (h3 : binZ .and .i64 r 65535 = some m) :
    (b' = 0 ∨ b' = 1) ∧ m = r % 65536 ∧ b' = -(r / 65536) ∧ 0 ≤ m ∧ m < 65536 := by
  have e1 : s = r / 2 ^ 16 := u_shr 16 (by decide) h1 rfl
  have e2 : b' = s % 2 ^ 1 := k_and 1 (by decide) rfl h2
  have e3 : m = r % 2 ^ 16 := k_and 16 (by decide) rfl h3
  simp only [Int.reducePow] at e1 e2 e3
  exact ⟨by omega, by omega, by omega, by omega, by omega⟩
theorem raw_step {x p b d r : Int} (hx : 0 ≤ x ∧ x < 65536) (hp : 0 ≤ p ∧ p ≤ 65535) (hb : b = 0 ∨ b = 1) (h1 : d = IntKind.i64.wrap (x - p)) (h2 : r = IntKind.i64.wrap (d - b)) : r = x - p - b := by
  rw [IntKind.wrap_i64] at h1 h2; omega
theorem raw_first {x p r : Int} (hx : 0 ≤ x ∧ x < 65536) (hp : 0 ≤ p ∧ p ≤ 65535) (h : r = IntKind.i64.wrap (x - p)) : r = x - p - 0 := by
  rw [IntKind.wrap_i64] at h; omega
theorem byte_step {x o s p : Int} (h1 : o = x % 256) (h2 : binZ .shr .i64 x 8 = some s) (h3 : p = s % 256) : o = x % 256 ∧ p = x / 256 % 256 := by
  have e1 : s = x / 2 ^ 8 := u_shr 8 (by decide) h2 rfl
  simp only [Int.reducePow] at e1
  exact ⟨h1, by rw [h3, e1]⟩
theorem top_lt {x b r : Int} (hx : 0 ≤ x ∧ x < 65536) (hb : b = 0 ∨ b = 1) (h : r = x - 32767 - b) : r < 65536 := by omega
theorem turn_ok {x0 x1 x2 x3 x4 x5 x6 x7 x8 x9 x10 x11 x12 x13 x14 x15 r0 d1 s1 b1 r1 m0 d2 s2 b2 r2 m1 d3 s3 b3 r3 m2 d4 s4 b4 r4 m3 d5 s5 b5 r5 m4 d6 s6 b6 r6 m5 d7 s7 b7 r7 m6 d8 s8 b8 r8 m7 d9 s9 b9 r9 m8 d10 s10 b10 r10 m9 d11 s11 b11 r11 m10 d12 s12 b12 r12 m11 d13 s13 b13 r13 m12 d14 s14 b14 r14 m13 d15 s15 b15 r15 m14 : Int} (dX : Dig16 [x0, x1, x2, x3, x4, x5, x6, x7, x8, x9, x10, x11, x12, x13, x14, x15]) (h0 : r0 = IntKind.i64.wrap (x0 - 65517)) (ha1 : d1 = IntKind.i64.wrap (x1 - 65535)) (hb1 : binZ .shr .i64 r0 16 = some s1) (hc1 : binZ .and .i64 s1 1 = some b1) (hd1 : r1 = IntKind.i64.wrap (d1 - b1)) (he1 : binZ .and .i64 r0 65535 = some m0) (ha2 : d2 = IntKind.i64.wrap (x2 - 65535)) (hb2 : binZ .shr .i64 r1 16 = some s2) (hc2 : binZ .and .i64 s2 1 = some b2) (hd2 : r2 = IntKind.i64.wrap (d2 - b2)) (he2 : binZ .and .i64 r1 65535 = some m1) (ha3 : d3 = IntKind.i64.wrap (x3 - 65535)) (hb3 : binZ .shr .i64 r2 16 = some s3) (hc3 : binZ .and .i64 s3 1 = some b3) (hd3 : r3 = IntKind.i64.wrap (d3 - b3)) (he3 : binZ .and .i64 r2 65535 = some m2) (ha4 : d4 = IntKind.i64.wrap (x4 - 65535)) (hb4 : binZ .shr .i64 r3 16 = some s4) (hc4 : binZ .and .i64 s4 1 = some b4) (hd4 : r4 = IntKind.i64.wrap (d4 - b4)) (he4 : binZ .and .i64 r3 65535 = some m3) (ha5 : d5 = IntKind.i64.wrap (x5 - 65535)) (hb5 : binZ .shr .i64 r4 16 = some s5) (hc5 : binZ .and .i64 s5 1 = some b5) (hd5 : r5 = IntKind.i64.wrap (d5 - b5)) (he5 : binZ .and .i64 r4 65535 = some m4) (ha6 : d6 = IntKind.i64.wrap (x6 - 65535)) (hb6 : binZ .shr .i64 r5 16 = some s6) (hc6 : binZ .and .i64 s6 1 = some b6) (hd6 : r6 = IntKind.i64.wrap (d6 - b6)) (he6 : binZ .and .i64 r5 65535 = some m5) (ha7 : d7 = IntKind.i64.wrap (x7 - 65535)) (hb7 : binZ .shr .i64 r6 16 = some s7) (hc7 : binZ .and .i64 s7 1 = some b7) (hd7 : r7 = IntKind.i64.wrap (d7 - b7)) (he7 : binZ .and .i64 r6 65535 = some m6) (ha8 : d8 = IntKind.i64.wrap (x8 - 65535)) (hb8 : binZ .shr .i64 r7 16 = some s8) (hc8 : binZ .and .i64 s8 1 = some b8) (hd8 : r8 = IntKind.i64.wrap (d8 - b8)) (he8 : binZ .and .i64 r7 65535 = some m7) (ha9 : d9 = IntKind.i64.wrap (x9 - 65535)) (hb9 : binZ .shr .i64 r8 16 = some s9) (hc9 : binZ .and .i64 s9 1 = some b9) (hd9 : r9 = IntKind.i64.wrap (d9 - b9)) (he9 : binZ .and .i64 r8 65535 = some m8) (ha10 : d10 = IntKind.i64.wrap (x10 - 65535)) (hb10 : binZ .shr .i64 r9 16 = some s10) (hc10 : binZ .and .i64 s10 1 = some b10) (hd10 : r10 = IntKind.i64.wrap (d10 - b10)) (he10 : binZ .and .i64 r9 65535 = some m9) (ha11 : d11 = IntKind.i64.wrap (x11 - 65535)) (hb11 : binZ .shr .i64 r10 16 = some s11) (hc11 : binZ .and .i64 s11 1 = some b11) (hd11 : r11 = IntKind.i64.wrap (d11 - b11)) (he11 : binZ .and .i64 r10 65535 = some m10) (ha12 : d12 = IntKind.i64.wrap (x12 - 65535)) (hb12 : binZ .shr .i64 r11 16 = some s12) (hc12 : binZ .and .i64 s12 1 = some b12) (hd12 : r12 = IntKind.i64.wrap (d12 - b12)) (he12 : binZ .and .i64 r11 65535 = some m11) (ha13 : d13 = IntKind.i64.wrap (x13 - 65535)) (hb13 : binZ .shr .i64 r12 16 = some s13) (hc13 : binZ .and .i64 s13 1 = some b13) (hd13 : r13 = IntKind.i64.wrap (d13 - b13)) (he13 : binZ .and .i64 r12 65535 = some m12) (ha14 : d14 = IntKind.i64.wrap (x14 - 65535)) (hb14 : binZ .shr .i64 r13 16 = some s14) (hc14 : binZ .and .i64 s14 1 = some b14) (hd14 : r14 = IntKind.i64.wrap (d14 - b14)) (he14 : binZ .and .i64 r13 65535 = some m13) (ha15 : d15 = IntKind.i64.wrap (x15 - 32767)) (hb15 : binZ .shr .i64 r14 16 = some s15) (hc15 : binZ .and .i64 s15 1 = some b15) (hd15 : r15 = IntKind.i64.wrap (d15 - b15)) (he15 : binZ .and .i64 r14 65535 = some m14) :
    dv 65536 [m0, m1, m2, m3, m4, m5, m6, m7, m8, m9, m10, m11, m12, m13, m14, r15] = dv 65536 [x0, x1, x2, x3, x4, x5, x6, x7, x8, x9, x10, x11, x12, x13, x14, x15] - PP ∧ (dv 65536 [x0, x1, x2, x3, x4, x5, x6, x7, x8, x9, x10, x11, x12, x13, x14, x15] - PP < 0 ↔ r15 < 0) ∧ (¬ r15 < 0 → Dig16 [m0, m1, m2, m3, m4, m5, m6, m7, m8, m9, m10, m11, m12, m13, m14, r15]) := by
  have k0 := raw_first (dX x0 (by simp)) (by decide) h0
  have p1 := bor_step (dX x0 (by simp)) (by decide) (.inl rfl) k0 hb1 hc1 he1
  have k1 := raw_step (dX x1 (by simp)) (by decide) p1.1 ha1 hd1
  have p2 := bor_step (dX x1 (by simp)) (by decide) p1.1 k1 hb2 hc2 he2
  have k2 := raw_step (dX x2 (by simp)) (by decide) p2.1 ha2 hd2
  have p3 := bor_step (dX x2 (by simp)) (by decide) p2.1 k2 hb3 hc3 he3
  have k3 := raw_step (dX x3 (by simp)) (by decide) p3.1 ha3 hd3
  have p4 := bor_step (dX x3 (by simp)) (by decide) p3.1 k3 hb4 hc4 he4
  have k4 := raw_step (dX x4 (by simp)) (by decide) p4.1 ha4 hd4
  have p5 := bor_step (dX x4 (by simp)) (by decide) p4.1 k4 hb5 hc5 he5
  have k5 := raw_step (dX x5 (by simp)) (by decide) p5.1 ha5 hd5
  have p6 := bor_step (dX x5 (by simp)) (by decide) p5.1 k5 hb6 hc6 he6
  have k6 := raw_step (dX x6 (by simp)) (by decide) p6.1 ha6 hd6
  have p7 := bor_step (dX x6 (by simp)) (by decide) p6.1 k6 hb7 hc7 he7
  have k7 := raw_step (dX x7 (by simp)) (by decide) p7.1 ha7 hd7
  have p8 := bor_step (dX x7 (by simp)) (by decide) p7.1 k7 hb8 hc8 he8
  have k8 := raw_step (dX x8 (by simp)) (by decide) p8.1 ha8 hd8
  have p9 := bor_step (dX x8 (by simp)) (by decide) p8.1 k8 hb9 hc9 he9
  have k9 := raw_step (dX x9 (by simp)) (by decide) p9.1 ha9 hd9
  have p10 := bor_step (dX x9 (by simp)) (by decide) p9.1 k9 hb10 hc10 he10
  have k10 := raw_step (dX x10 (by simp)) (by decide) p10.1 ha10 hd10
  have p11 := bor_step (dX x10 (by simp)) (by decide) p10.1 k10 hb11 hc11 he11
  have k11 := raw_step (dX x11 (by simp)) (by decide) p11.1 ha11 hd11
  have p12 := bor_step (dX x11 (by simp)) (by decide) p11.1 k11 hb12 hc12 he12
  have k12 := raw_step (dX x12 (by simp)) (by decide) p12.1 ha12 hd12
  have p13 := bor_step (dX x12 (by simp)) (by decide) p12.1 k12 hb13 hc13 he13
  have k13 := raw_step (dX x13 (by simp)) (by decide) p13.1 ha13 hd13
  have p14 := bor_step (dX x13 (by simp)) (by decide) p13.1 k13 hb14 hc14 he14
  have k14 := raw_step (dX x14 (by simp)) (by decide) p14.1 ha14 hd14
  have p15 := bor_step (dX x14 (by simp)) (by decide) p14.1 k14 hb15 hc15 he15
  have k15 := raw_step (dX x15 (by simp)) (by decide) p15.1 ha15 hd15
  have sM : [m0, m1, m2, m3, m4, m5, m6, m7, m8, m9, m10, m11, m12, m13, m14, r15] = subF 0 [x0, x1, x2, x3, x4, x5, x6, x7, x8, x9, x10, x11, x12, x13, x14, x15] pF := subF_cons k0 p1.2.1 p1.2.2.1 (subF_cons k1 p2.2.1 p2.2.2.1 (subF_cons k2 p3.2.1 p3.2.2.1 (subF_cons k3 p4.2.1 p4.2.2.1 (subF_cons k4 p5.2.1 p5.2.2.1 (subF_cons k5 p6.2.1 p6.2.2.1 (subF_cons k6 p7.2.1 p7.2.2.1 (subF_cons k7 p8.2.1 p8.2.2.1 (subF_cons k8 p9.2.1 p9.2.2.1 (subF_cons k9 p10.2.1 p10.2.2.1 (subF_cons k10 p11.2.1 p11.2.2.1 (subF_cons k11 p12.2.1 p12.2.2.1 (subF_cons k12 p13.2.1 p13.2.2.1 (subF_cons k13 p14.2.1 p14.2.2.1 (subF_cons k14 p15.2.1 p15.2.2.1 (by rw [k15]; rfl)))))))))))))))
  have vM : dv 65536 [m0, m1, m2, m3, m4, m5, m6, m7, m8, m9, m10, m11, m12, m13, m14, r15] = dv 65536 [x0, x1, x2, x3, x4, x5, x6, x7, x8, x9, x10, x11, x12, x13, x14, x15] - PP := by rw [sM, subF_dv 0 [x0, x1, x2, x3, x4, x5, x6, x7, x8, x9, x10, x11, x12, x13, x14, x15] pF rfl (by simp), pF_dv, Int.sub_zero]
  have dM : Dig16 [m0, m1, m2, m3, m4, m5, m6, m7, m8, m9, m10, m11, m12, m13, m14] := by
    intro z hz
    simp only [List.mem_cons, List.not_mem_nil, or_false] at hz
    rcases hz with rfl | rfl | rfl | rfl | rfl | rfl | rfl | rfl | rfl | rfl | rfl | rfl | rfl | rfl | rfl
    · exact p1.2.2.2
    · exact p2.2.2.2
    · exact p3.2.2.2
    · exact p4.2.2.2
    · exact p5.2.2.2
    · exact p6.2.2.2
    · exact p7.2.2.2
    · exact p8.2.2.2
    · exact p9.2.2.2
    · exact p10.2.2.2
    · exact p11.2.2.2
    · exact p12.2.2.2
    · exact p13.2.2.2
    · exact p14.2.2.2
    · exact p15.2.2.2
  have tn := top_neg (r := r15) dM
  have tn : dv 65536 [m0, m1, m2, m3, m4, m5, m6, m7, m8, m9, m10, m11, m12, m13, m14, r15] < 0 ↔ r15 < 0 := tn
  rw [vM] at tn
  exact ⟨vM, tn, fun q => dig16_app dM (Int.not_lt.1 q) (top_lt (dX x15 (by simp)) p15.1 k15)⟩
end Go.Proofs.Ytfobnajgnnccmaa
end
section
namespace Go.Proofs.Ytfobnajgnnccmaa
open Go.RowKit Go.Bx Go.Sx
set_option linter.unusedSimpArgs false
set_option maxRecDepth 100000
set_option maxHeartbeats 4000000 in
theorem brk_law {ρ : Nat → Int} (dX : Dig16 [ρ 1, ρ 2, ρ 3, ρ 4, ρ 5, ρ 6, ρ 7, ρ 8, ρ 9, ρ 10, ρ 11, ρ 12, ρ 13, ρ 14, ρ 15, ρ 16]) (hd : Defs sfns ρ [.cmp 17 .lss (.v 0) (.l 3), .cond 17 true, .bin 18 .sub .i64 (.v 1) (.l 65517), .bin 19 .sub .i64 (.v 2) (.l 65535), .bin 20 .shr .i64 (.v 18) (.l 16), .bin 21 .and .i64 (.v 20) (.l 1), .bin 22 .sub .i64 (.v 19) (.v 21), .bin 23 .and .i64 (.v 18) (.l 65535), .bin 24 .sub .i64 (.v 3) (.l 65535), .bin 25 .shr .i64 (.v 22) (.l 16), .bin 26 .and .i64 (.v 25) (.l 1), .bin 27 .sub .i64 (.v 24) (.v 26), .bin 28 .and .i64 (.v 22) (.l 65535), .bin 29 .sub .i64 (.v 4) (.l 65535), .bin 30 .shr .i64 (.v 27) (.l 16), .bin 31 .and .i64 (.v 30) (.l 1), .bin 32 .sub .i64 (.v 29) (.v 31), .bin 33 .and .i64 (.v 27) (.l 65535), .bin 34 .sub .i64 (.v 5) (.l 65535), .bin 35 .shr .i64 (.v 32) (.l 16), .bin 36 .and .i64 (.v 35) (.l 1), .bin 37 .sub .i64 (.v 34) (.v 36), .bin 38 .and .i64 (.v 32) (.l 65535), .bin 39 .sub .i64 (.v 6) (.l 65535), .bin 40 .shr .i64 (.v 37) (.l 16), .bin 41 .and .i64 (.v 40) (.l 1), .bin 42 .sub .i64 (.v 39) (.v 41), .bin 43 .and .i64 (.v 37) (.l 65535), .bin 44 .sub .i64 (.v 7) (.l 65535), .bin 45 .shr .i64 (.v 42) (.l 16), .bin 46 .and .i64 (.v 45) (.l 1), .bin 47 .sub .i64 (.v 44) (.v 46), .bin 48 .and .i64 (.v 42) (.l 65535), .bin 49 .sub .i64 (.v 8) (.l 65535), .bin 50 .shr .i64 (.v 47) (.l 16), .bin 51 .and .i64 (.v 50) (.l 1), .bin 52 .sub .i64 (.v 49) (.v 51), .bin 53 .and .i64 (.v 47) (.l 65535), .bin 54 .sub .i64 (.v 9) (.l 65535), .bin 55 .shr .i64 (.v 52) (.l 16), .bin 56 .and .i64 (.v 55) (.l 1), .bin 57 .sub .i64 (.v 54) (.v 56), .bin 58 .and .i64 (.v 52) (.l 65535), .bin 59 .sub .i64 (.v 10) (.l 65535), .bin 60 .shr .i64 (.v 57) (.l 16), .bin 61 .and .i64 (.v 60) (.l 1), .bin 62 .sub .i64 (.v 59) (.v 61), .bin 63 .and .i64 (.v 57) (.l 65535), .bin 64 .sub .i64 (.v 11) (.l 65535), .bin 65 .shr .i64 (.v 62) (.l 16), .bin 66 .and .i64 (.v 65) (.l 1), .bin 67 .sub .i64 (.v 64) (.v 66), .bin 68 .and .i64 (.v 62) (.l 65535), .bin 69 .sub .i64 (.v 12) (.l 65535), .bin 70 .shr .i64 (.v 67) (.l 16), .bin 71 .and .i64 (.v 70) (.l 1), .bin 72 .sub .i64 (.v 69) (.v 71), .bin 73 .and .i64 (.v 67) (.l 65535), .bin 74 .sub .i64 (.v 13) (.l 65535), .bin 75 .shr .i64 (.v 72) (.l 16), .bin 76 .and .i64 (.v 75) (.l 1), .bin 77 .sub .i64 (.v 74) (.v 76), .bin 78 .and .i64 (.v 72) (.l 65535), .bin 79 .sub .i64 (.v 14) (.l 65535), .bin 80 .shr .i64 (.v 77) (.l 16), .bin 81 .and .i64 (.v 80) (.l 1), .bin 82 .sub .i64 (.v 79) (.v 81), .bin 83 .and .i64 (.v 77) (.l 65535), .bin 84 .sub .i64 (.v 15) (.l 65535), .bin 85 .shr .i64 (.v 82) (.l 16), .bin 86 .and .i64 (.v 85) (.l 1), .bin 87 .sub .i64 (.v 84) (.v 86), .bin 88 .and .i64 (.v 82) (.l 65535), .bin 89 .sub .i64 (.v 16) (.l 32767), .bin 90 .shr .i64 (.v 87) (.l 16), .bin 91 .and .i64 (.v 90) (.l 1), .bin 92 .sub .i64 (.v 89) (.v 91), .bin 93 .and .i64 (.v 87) (.l 65535), .cmp 94 .lss (.v 92) (.l 0), .cond 94 true]) : ρ 17 = b2i (decide (ρ 0 < 3)) ∧ (dv 65536 [ρ 23, ρ 28, ρ 33, ρ 38, ρ 43, ρ 48, ρ 53, ρ 58, ρ 63, ρ 68, ρ 73, ρ 78, ρ 83, ρ 88, ρ 93, ρ 92] = dv 65536 [ρ 1, ρ 2, ρ 3, ρ 4, ρ 5, ρ 6, ρ 7, ρ 8, ρ 9, ρ 10, ρ 11, ρ 12, ρ 13, ρ 14, ρ 15, ρ 16] - PP ∧ (dv 65536 [ρ 1, ρ 2, ρ 3, ρ 4, ρ 5, ρ 6, ρ 7, ρ 8, ρ 9, ρ 10, ρ 11, ρ 12, ρ 13, ρ 14, ρ 15, ρ 16] - PP < 0 ↔ ρ 92 < 0) ∧ (¬ ρ 92 < 0 → Dig16 [ρ 23, ρ 28, ρ 33, ρ 38, ρ 43, ρ 48, ρ 53, ρ 58, ρ 63, ρ 68, ρ 73, ρ 78, ρ 83, ρ 88, ρ 93, ρ 92])) ∧ ρ 94 = b2i (decide (ρ 92 < 0)) := by
  have t0 := Eq.mp D_lss hd
  have t1 := Eq.mp D_cond t0.2
  have t2 := Eq.mp D_sub_i64 t1
  have t3 := Eq.mp D_sub_i64 t2.2
  have t4 := Eq.mp D_shr t3.2
  have t5 := Eq.mp D_and t4.2
  have t6 := Eq.mp D_sub_i64 t5.2
  have t7 := Eq.mp D_and t6.2
  have t8 := Eq.mp D_sub_i64 t7.2
  have t9 := Eq.mp D_shr t8.2
  have t10 := Eq.mp D_and t9.2
  have t11 := Eq.mp D_sub_i64 t10.2
  have t12 := Eq.mp D_and t11.2
  have t13 := Eq.mp D_sub_i64 t12.2
  have t14 := Eq.mp D_shr t13.2
  have t15 := Eq.mp D_and t14.2
  have t16 := Eq.mp D_sub_i64 t15.2
  have t17 := Eq.mp D_and t16.2
  have t18 := Eq.mp D_sub_i64 t17.2
  have t19 := Eq.mp D_shr t18.2
  have t20 := Eq.mp D_and t19.2
  have t21 := Eq.mp D_sub_i64 t20.2
  have t22 := Eq.mp D_and t21.2
  have t23 := Eq.mp D_sub_i64 t22.2
  have t24 := Eq.mp D_shr t23.2
  have t25 := Eq.mp D_and t24.2
  have t26 := Eq.mp D_sub_i64 t25.2
  have t27 := Eq.mp D_and t26.2
  have t28 := Eq.mp D_sub_i64 t27.2
  have t29 := Eq.mp D_shr t28.2
  have t30 := Eq.mp D_and t29.2
  have t31 := Eq.mp D_sub_i64 t30.2
  have t32 := Eq.mp D_and t31.2
  have t33 := Eq.mp D_sub_i64 t32.2
  have t34 := Eq.mp D_shr t33.2
  have t35 := Eq.mp D_and t34.2
  have t36 := Eq.mp D_sub_i64 t35.2
  have t37 := Eq.mp D_and t36.2
  have t38 := Eq.mp D_sub_i64 t37.2
  have t39 := Eq.mp D_shr t38.2
  have t40 := Eq.mp D_and t39.2
  have t41 := Eq.mp D_sub_i64 t40.2
  have t42 := Eq.mp D_and t41.2
  have t43 := Eq.mp D_sub_i64 t42.2
  have t44 := Eq.mp D_shr t43.2
  have t45 := Eq.mp D_and t44.2
  have t46 := Eq.mp D_sub_i64 t45.2
  have t47 := Eq.mp D_and t46.2
  have t48 := Eq.mp D_sub_i64 t47.2
  have t49 := Eq.mp D_shr t48.2
  have t50 := Eq.mp D_and t49.2
  have t51 := Eq.mp D_sub_i64 t50.2
  have t52 := Eq.mp D_and t51.2
  have t53 := Eq.mp D_sub_i64 t52.2
  have t54 := Eq.mp D_shr t53.2
  have t55 := Eq.mp D_and t54.2
  have t56 := Eq.mp D_sub_i64 t55.2
  have t57 := Eq.mp D_and t56.2
  have t58 := Eq.mp D_sub_i64 t57.2
  have t59 := Eq.mp D_shr t58.2
  have t60 := Eq.mp D_and t59.2
  have t61 := Eq.mp D_sub_i64 t60.2
  have t62 := Eq.mp D_and t61.2
  have t63 := Eq.mp D_sub_i64 t62.2
  have t64 := Eq.mp D_shr t63.2
  have t65 := Eq.mp D_and t64.2
  have t66 := Eq.mp D_sub_i64 t65.2
  have t67 := Eq.mp D_and t66.2
  have t68 := Eq.mp D_sub_i64 t67.2
  have t69 := Eq.mp D_shr t68.2
  have t70 := Eq.mp D_and t69.2
  have t71 := Eq.mp D_sub_i64 t70.2
  have t72 := Eq.mp D_and t71.2
  have t73 := Eq.mp D_sub_i64 t72.2
  have t74 := Eq.mp D_shr t73.2
  have t75 := Eq.mp D_and t74.2
  have t76 := Eq.mp D_sub_i64 t75.2
  have t77 := Eq.mp D_and t76.2
  have t78 := Eq.mp D_lss t77.2
  have t79 := Eq.mp D_cond t78.2
  exact ⟨t0.1, turn_ok dX t2.1 t3.1 t4.1 t5.1 t6.1 t7.1 t8.1 t9.1 t10.1 t11.1 t12.1 t13.1 t14.1 t15.1 t16.1 t17.1 t18.1 t19.1 t20.1 t21.1 t22.1 t23.1 t24.1 t25.1 t26.1 t27.1 t28.1 t29.1 t30.1 t31.1 t32.1 t33.1 t34.1 t35.1 t36.1 t37.1 t38.1 t39.1 t40.1 t41.1 t42.1 t43.1 t44.1 t45.1 t46.1 t47.1 t48.1 t49.1 t50.1 t51.1 t52.1 t53.1 t54.1 t55.1 t56.1 t57.1 t58.1 t59.1 t60.1 t61.1 t62.1 t63.1 t64.1 t65.1 t66.1 t67.1 t68.1 t69.1 t70.1 t71.1 t72.1 t73.1 t74.1 t75.1 t76.1 t77.1, t78.1⟩
set_option maxHeartbeats 4000000 in
theorem go_law {ρ : Nat → Int} (dX : Dig16 [ρ 1, ρ 2, ρ 3, ρ 4, ρ 5, ρ 6, ρ 7, ρ 8, ρ 9, ρ 10, ρ 11, ρ 12, ρ 13, ρ 14, ρ 15, ρ 16]) (hd : Defs sfns ρ [.cmp 17 .lss (.v 0) (.l 3), .cond 17 true, .bin 18 .sub .i64 (.v 1) (.l 65517), .bin 19 .sub .i64 (.v 2) (.l 65535), .bin 20 .shr .i64 (.v 18) (.l 16), .bin 21 .and .i64 (.v 20) (.l 1), .bin 22 .sub .i64 (.v 19) (.v 21), .bin 23 .and .i64 (.v 18) (.l 65535), .bin 24 .sub .i64 (.v 3) (.l 65535), .bin 25 .shr .i64 (.v 22) (.l 16), .bin 26 .and .i64 (.v 25) (.l 1), .bin 27 .sub .i64 (.v 24) (.v 26), .bin 28 .and .i64 (.v 22) (.l 65535), .bin 29 .sub .i64 (.v 4) (.l 65535), .bin 30 .shr .i64 (.v 27) (.l 16), .bin 31 .and .i64 (.v 30) (.l 1), .bin 32 .sub .i64 (.v 29) (.v 31), .bin 33 .and .i64 (.v 27) (.l 65535), .bin 34 .sub .i64 (.v 5) (.l 65535), .bin 35 .shr .i64 (.v 32) (.l 16), .bin 36 .and .i64 (.v 35) (.l 1), .bin 37 .sub .i64 (.v 34) (.v 36), .bin 38 .and .i64 (.v 32) (.l 65535), .bin 39 .sub .i64 (.v 6) (.l 65535), .bin 40 .shr .i64 (.v 37) (.l 16), .bin 41 .and .i64 (.v 40) (.l 1), .bin 42 .sub .i64 (.v 39) (.v 41), .bin 43 .and .i64 (.v 37) (.l 65535), .bin 44 .sub .i64 (.v 7) (.l 65535), .bin 45 .shr .i64 (.v 42) (.l 16), .bin 46 .and .i64 (.v 45) (.l 1), .bin 47 .sub .i64 (.v 44) (.v 46), .bin 48 .and .i64 (.v 42) (.l 65535), .bin 49 .sub .i64 (.v 8) (.l 65535), .bin 50 .shr .i64 (.v 47) (.l 16), .bin 51 .and .i64 (.v 50) (.l 1), .bin 52 .sub .i64 (.v 49) (.v 51), .bin 53 .and .i64 (.v 47) (.l 65535), .bin 54 .sub .i64 (.v 9) (.l 65535), .bin 55 .shr .i64 (.v 52) (.l 16), .bin 56 .and .i64 (.v 55) (.l 1), .bin 57 .sub .i64 (.v 54) (.v 56), .bin 58 .and .i64 (.v 52) (.l 65535), .bin 59 .sub .i64 (.v 10) (.l 65535), .bin 60 .shr .i64 (.v 57) (.l 16), .bin 61 .and .i64 (.v 60) (.l 1), .bin 62 .sub .i64 (.v 59) (.v 61), .bin 63 .and .i64 (.v 57) (.l 65535), .bin 64 .sub .i64 (.v 11) (.l 65535), .bin 65 .shr .i64 (.v 62) (.l 16), .bin 66 .and .i64 (.v 65) (.l 1), .bin 67 .sub .i64 (.v 64) (.v 66), .bin 68 .and .i64 (.v 62) (.l 65535), .bin 69 .sub .i64 (.v 12) (.l 65535), .bin 70 .shr .i64 (.v 67) (.l 16), .bin 71 .and .i64 (.v 70) (.l 1), .bin 72 .sub .i64 (.v 69) (.v 71), .bin 73 .and .i64 (.v 67) (.l 65535), .bin 74 .sub .i64 (.v 13) (.l 65535), .bin 75 .shr .i64 (.v 72) (.l 16), .bin 76 .and .i64 (.v 75) (.l 1), .bin 77 .sub .i64 (.v 74) (.v 76), .bin 78 .and .i64 (.v 72) (.l 65535), .bin 79 .sub .i64 (.v 14) (.l 65535), .bin 80 .shr .i64 (.v 77) (.l 16), .bin 81 .and .i64 (.v 80) (.l 1), .bin 82 .sub .i64 (.v 79) (.v 81), .bin 83 .and .i64 (.v 77) (.l 65535), .bin 84 .sub .i64 (.v 15) (.l 65535), .bin 85 .shr .i64 (.v 82) (.l 16), .bin 86 .and .i64 (.v 85) (.l 1), .bin 87 .sub .i64 (.v 84) (.v 86), .bin 88 .and .i64 (.v 82) (.l 65535), .bin 89 .sub .i64 (.v 16) (.l 32767), .bin 90 .shr .i64 (.v 87) (.l 16), .bin 91 .and .i64 (.v 90) (.l 1), .bin 92 .sub .i64 (.v 89) (.v 91), .bin 93 .and .i64 (.v 87) (.l 65535), .cmp 94 .lss (.v 92) (.l 0), .cond 94 false, .bin 95 .add .i64 (.v 0) (.l 1)]) : ρ 17 = b2i (decide (ρ 0 < 3)) ∧ (dv 65536 [ρ 23, ρ 28, ρ 33, ρ 38, ρ 43, ρ 48, ρ 53, ρ 58, ρ 63, ρ 68, ρ 73, ρ 78, ρ 83, ρ 88, ρ 93, ρ 92] = dv 65536 [ρ 1, ρ 2, ρ 3, ρ 4, ρ 5, ρ 6, ρ 7, ρ 8, ρ 9, ρ 10, ρ 11, ρ 12, ρ 13, ρ 14, ρ 15, ρ 16] - PP ∧ (dv 65536 [ρ 1, ρ 2, ρ 3, ρ 4, ρ 5, ρ 6, ρ 7, ρ 8, ρ 9, ρ 10, ρ 11, ρ 12, ρ 13, ρ 14, ρ 15, ρ 16] - PP < 0 ↔ ρ 92 < 0) ∧ (¬ ρ 92 < 0 → Dig16 [ρ 23, ρ 28, ρ 33, ρ 38, ρ 43, ρ 48, ρ 53, ρ 58, ρ 63, ρ 68, ρ 73, ρ 78, ρ 83, ρ 88, ρ 93, ρ 92])) ∧ ρ 94 = b2i (decide (ρ 92 < 0)) ∧ ρ 95 = IntKind.i64.wrap (ρ 0 + 1) := by
  have t0 := Eq.mp D_lss hd
  have t1 := Eq.mp D_cond t0.2
  have t2 := Eq.mp D_sub_i64 t1
  have t3 := Eq.mp D_sub_i64 t2.2
  have t4 := Eq.mp D_shr t3.2
  have t5 := Eq.mp D_and t4.2
  have t6 := Eq.mp D_sub_i64 t5.2
  have t7 := Eq.mp D_and t6.2
  have t8 := Eq.mp D_sub_i64 t7.2
  have t9 := Eq.mp D_shr t8.2
  have t10 := Eq.mp D_and t9.2
  have t11 := Eq.mp D_sub_i64 t10.2
  have t12 := Eq.mp D_and t11.2
  have t13 := Eq.mp D_sub_i64 t12.2
  have t14 := Eq.mp D_shr t13.2
  have t15 := Eq.mp D_and t14.2
  have t16 := Eq.mp D_sub_i64 t15.2
  have t17 := Eq.mp D_and t16.2
  have t18 := Eq.mp D_sub_i64 t17.2
  have t19 := Eq.mp D_shr t18.2
  have t20 := Eq.mp D_and t19.2
  have t21 := Eq.mp D_sub_i64 t20.2
  have t22 := Eq.mp D_and t21.2
  have t23 := Eq.mp D_sub_i64 t22.2
  have t24 := Eq.mp D_shr t23.2
  have t25 := Eq.mp D_and t24.2
  have t26 := Eq.mp D_sub_i64 t25.2
  have t27 := Eq.mp D_and t26.2
  have t28 := Eq.mp D_sub_i64 t27.2
  have t29 := Eq.mp D_shr t28.2
  have t30 := Eq.mp D_and t29.2
  have t31 := Eq.mp D_sub_i64 t30.2
  have t32 := Eq.mp D_and t31.2
  have t33 := Eq.mp D_sub_i64 t32.2
  have t34 := Eq.mp D_shr t33.2
  have t35 := Eq.mp D_and t34.2
  have t36 := Eq.mp D_sub_i64 t35.2
  have t37 := Eq.mp D_and t36.2
  have t38 := Eq.mp D_sub_i64 t37.2
  have t39 := Eq.mp D_shr t38.2
  have t40 := Eq.mp D_and t39.2
  have t41 := Eq.mp D_sub_i64 t40.2
  have t42 := Eq.mp D_and t41.2
  have t43 := Eq.mp D_sub_i64 t42.2
  have t44 := Eq.mp D_shr t43.2
  have t45 := Eq.mp D_and t44.2
  have t46 := Eq.mp D_sub_i64 t45.2
  have t47 := Eq.mp D_and t46.2
  have t48 := Eq.mp D_sub_i64 t47.2
  have t49 := Eq.mp D_shr t48.2
  have t50 := Eq.mp D_and t49.2
  have t51 := Eq.mp D_sub_i64 t50.2
  have t52 := Eq.mp D_and t51.2
  have t53 := Eq.mp D_sub_i64 t52.2
  have t54 := Eq.mp D_shr t53.2
  have t55 := Eq.mp D_and t54.2
  have t56 := Eq.mp D_sub_i64 t55.2
  have t57 := Eq.mp D_and t56.2
  have t58 := Eq.mp D_sub_i64 t57.2
  have t59 := Eq.mp D_shr t58.2
  have t60 := Eq.mp D_and t59.2
  have t61 := Eq.mp D_sub_i64 t60.2
  have t62 := Eq.mp D_and t61.2
  have t63 := Eq.mp D_sub_i64 t62.2
  have t64 := Eq.mp D_shr t63.2
  have t65 := Eq.mp D_and t64.2
  have t66 := Eq.mp D_sub_i64 t65.2
  have t67 := Eq.mp D_and t66.2
  have t68 := Eq.mp D_sub_i64 t67.2
  have t69 := Eq.mp D_shr t68.2
  have t70 := Eq.mp D_and t69.2
  have t71 := Eq.mp D_sub_i64 t70.2
  have t72 := Eq.mp D_and t71.2
  have t73 := Eq.mp D_sub_i64 t72.2
  have t74 := Eq.mp D_shr t73.2
  have t75 := Eq.mp D_and t74.2
  have t76 := Eq.mp D_sub_i64 t75.2
  have t77 := Eq.mp D_and t76.2
  have t78 := Eq.mp D_lss t77.2
  have t79 := Eq.mp D_cond t78.2
  have t80 := Eq.mp D_add_i64 t79
  exact ⟨t0.1, turn_ok dX t2.1 t3.1 t4.1 t5.1 t6.1 t7.1 t8.1 t9.1 t10.1 t11.1 t12.1 t13.1 t14.1 t15.1 t16.1 t17.1 t18.1 t19.1 t20.1 t21.1 t22.1 t23.1 t24.1 t25.1 t26.1 t27.1 t28.1 t29.1 t30.1 t31.1 t32.1 t33.1 t34.1 t35.1 t36.1 t37.1 t38.1 t39.1 t40.1 t41.1 t42.1 t43.1 t44.1 t45.1 t46.1 t47.1 t48.1 t49.1 t50.1 t51.1 t52.1 t53.1 t54.1 t55.1 t56.1 t57.1 t58.1 t59.1 t60.1 t61.1 t62.1 t63.1 t64.1 t65.1 t66.1 t67.1 t68.1 t69.1 t70.1 t71.1 t72.1 t73.1 t74.1 t75.1 t76.1 t77.1, t78.1, t80.1⟩
end Go.Proofs.Ytfobnajgnnccmaa
end
section
namespace Go.Bx
theorem mod_W (x : Int) : 0 ≤ x % PP ∧ x % PP < WW := by
  have h0 := Int.emod_nonneg x (b := PP) (by decide)
  have h1 := Int.emod_lt_of_pos x PP_lt.1
  have := PP_lt
  omega
theorem dig16_dig {l : List Int} (h : Dig16 l) : Dig 65536 l := ⟨h⟩
theorem dg16 {l : List Int} (hl : l.length = 16) (h : Dig16 l) : l = dg 65536 16 (dv 65536 l) := by
  have := dg_dv (by decide) (dig16_dig h)
  rw [hl] at this; exact this.symm
theorem dg16_dig (x : Int) : Dig16 (dg 65536 16 x) := (dg_dig (by decide) 16 x).d
theorem dv16 {x : Int} (h0 : 0 ≤ x) (h1 : x < WW) : dv 65536 (dg 65536 16 x) = x := dv_dg_of (by decide) h0 (by rw [Q16]; exact h1)
end Go.Bx
namespace Go.Proofs.Ytfobnajgnnccmaa
open Go.RowKit Go.Bx Go.Sx
set_option linter.unusedSimpArgs false
set_option linter.unusedVariables false
set_option maxRecDepth 100000
theorem inc_i {x y : Int} (h : y = IntKind.i64.wrap (x + 1)) (h0 : 0 ≤ x) (h1 : x < 3) : y = x + 1 := by
  rw [IntKind.wrap_i64] at h; omega
noncomputable def ouT : LoopT := ⟨[.any, .c (.ptr 0 0), .c (.ptr 1 0), .c (.int .i64 (.v 0)), .any, .any, .any, .any, .any, .any, .any, .any, .any, .any, .any, .any, .any, .any, .any, .any, .any, .any, .any, .any, .any, .any, .any, .any, .any, .any, .any, .any, .any, .any, .any, .any, .any, .any, .any, .any, .any, .any, .any, .any, .any, .any, .any, .any, .any, .any, .any, .any, .any, .any, .any, .any, .any, .any, .any, .any, .any, .any, .any, .any, .any, .any, .any, .any, .any, .any, .any, .any, .any, .any, .any, .any, .any, .any, .any, .any, .any, .any, .any, .any, .any], [some ⟨65, [.int .i64 (.v 1), .int .i64 (.v 2), .int .i64 (.v 3), .int .i64 (.v 4), .int .i64 (.v 5), .int .i64 (.v 6), .int .i64 (.v 7), .int .i64 (.v 8), .int .i64 (.v 9), .int .i64 (.v 10), .int .i64 (.v 11), .int .i64 (.v 12), .int .i64 (.v 13), .int .i64 (.v 14), .int .i64 (.v 15), .int .i64 (.v 16)]⟩, some ⟨26, [.int .u8 (.l 0), .int .u8 (.l 0), .int .u8 (.l 0), .int .u8 (.l 0), .int .u8 (.l 0), .int .u8 (.l 0), .int .u8 (.l 0), .int .u8 (.l 0), .int .u8 (.l 0), .int .u8 (.l 0), .int .u8 (.l 0), .int .u8 (.l 0), .int .u8 (.l 0), .int .u8 (.l 0), .int .u8 (.l 0), .int .u8 (.l 0), .int .u8 (.l 0), .int .u8 (.l 0), .int .u8 (.l 0), .int .u8 (.l 0), .int .u8 (.l 0), .int .u8 (.l 0), .int .u8 (.l 0), .int .u8 (.l 0), .int .u8 (.l 0), .int .u8 (.l 0), .int .u8 (.l 0), .int .u8 (.l 0), .int .u8 (.l 0), .int .u8 (.l 0), .int .u8 (.l 0), .int .u8 (.l 0)]⟩], 17, 59, 0, [.l 0, .v 48, .v 49, .v 50, .v 51, .v 52, .v 53, .v 54, .v 55, .v 56, .v 57, .v 58, .v 59, .v 60, .v 61, .v 62, .v 63]⟩
noncomputable def ouB : Code := (Try.f52).body.getD .skip
theorem ou_get (ρ : Nat → Int) {i : Nat} (hi : i < 17) : ρ i = ([ρ 0] ++ seg ρ 1 16).getD i 0 := by
  rw [show [ρ 0] ++ seg ρ 1 16 = seg ρ 0 17 from rfl, seg_get hi, Nat.zero_add]
def ouI (ρ0 ρ : Nat → Int) : Prop :=
  0 ≤ ρ 0 ∧ Dig16 (seg ρ 1 16) ∧ dv 65536 (seg ρ0 1 16) < WW ∧ dv 65536 (seg ρ 1 16) = dv 65536 (seg ρ0 1 16) - ρ 0 * PP
set_option maxHeartbeats 8000000 in
theorem ou_brk : roundB Try.prog GT1 300 5 (loopAt 0 ouB) ouT [true,true] (some 0) [.cmp 17 .lss (.v 0) (.l 3), .cond 17 true, .bin 18 .sub .i64 (.v 1) (.l 65517), .bin 19 .sub .i64 (.v 2) (.l 65535), .bin 20 .shr .i64 (.v 18) (.l 16), .bin 21 .and .i64 (.v 20) (.l 1), .bin 22 .sub .i64 (.v 19) (.v 21), .bin 23 .and .i64 (.v 18) (.l 65535), .bin 24 .sub .i64 (.v 3) (.l 65535), .bin 25 .shr .i64 (.v 22) (.l 16), .bin 26 .and .i64 (.v 25) (.l 1), .bin 27 .sub .i64 (.v 24) (.v 26), .bin 28 .and .i64 (.v 22) (.l 65535), .bin 29 .sub .i64 (.v 4) (.l 65535), .bin 30 .shr .i64 (.v 27) (.l 16), .bin 31 .and .i64 (.v 30) (.l 1), .bin 32 .sub .i64 (.v 29) (.v 31), .bin 33 .and .i64 (.v 27) (.l 65535), .bin 34 .sub .i64 (.v 5) (.l 65535), .bin 35 .shr .i64 (.v 32) (.l 16), .bin 36 .and .i64 (.v 35) (.l 1), .bin 37 .sub .i64 (.v 34) (.v 36), .bin 38 .and .i64 (.v 32) (.l 65535), .bin 39 .sub .i64 (.v 6) (.l 65535), .bin 40 .shr .i64 (.v 37) (.l 16), .bin 41 .and .i64 (.v 40) (.l 1), .bin 42 .sub .i64 (.v 39) (.v 41), .bin 43 .and .i64 (.v 37) (.l 65535), .bin 44 .sub .i64 (.v 7) (.l 65535), .bin 45 .shr .i64 (.v 42) (.l 16), .bin 46 .and .i64 (.v 45) (.l 1), .bin 47 .sub .i64 (.v 44) (.v 46), .bin 48 .and .i64 (.v 42) (.l 65535), .bin 49 .sub .i64 (.v 8) (.l 65535), .bin 50 .shr .i64 (.v 47) (.l 16), .bin 51 .and .i64 (.v 50) (.l 1), .bin 52 .sub .i64 (.v 49) (.v 51), .bin 53 .and .i64 (.v 47) (.l 65535), .bin 54 .sub .i64 (.v 9) (.l 65535), .bin 55 .shr .i64 (.v 52) (.l 16), .bin 56 .and .i64 (.v 55) (.l 1), .bin 57 .sub .i64 (.v 54) (.v 56), .bin 58 .and .i64 (.v 52) (.l 65535), .bin 59 .sub .i64 (.v 10) (.l 65535), .bin 60 .shr .i64 (.v 57) (.l 16), .bin 61 .and .i64 (.v 60) (.l 1), .bin 62 .sub .i64 (.v 59) (.v 61), .bin 63 .and .i64 (.v 57) (.l 65535), .bin 64 .sub .i64 (.v 11) (.l 65535), .bin 65 .shr .i64 (.v 62) (.l 16), .bin 66 .and .i64 (.v 65) (.l 1), .bin 67 .sub .i64 (.v 64) (.v 66), .bin 68 .and .i64 (.v 62) (.l 65535), .bin 69 .sub .i64 (.v 12) (.l 65535), .bin 70 .shr .i64 (.v 67) (.l 16), .bin 71 .and .i64 (.v 70) (.l 1), .bin 72 .sub .i64 (.v 69) (.v 71), .bin 73 .and .i64 (.v 67) (.l 65535), .bin 74 .sub .i64 (.v 13) (.l 65535), .bin 75 .shr .i64 (.v 72) (.l 16), .bin 76 .and .i64 (.v 75) (.l 1), .bin 77 .sub .i64 (.v 74) (.v 76), .bin 78 .and .i64 (.v 72) (.l 65535), .bin 79 .sub .i64 (.v 14) (.l 65535), .bin 80 .shr .i64 (.v 77) (.l 16), .bin 81 .and .i64 (.v 80) (.l 1), .bin 82 .sub .i64 (.v 79) (.v 81), .bin 83 .and .i64 (.v 77) (.l 65535), .bin 84 .sub .i64 (.v 15) (.l 65535), .bin 85 .shr .i64 (.v 82) (.l 16), .bin 86 .and .i64 (.v 85) (.l 1), .bin 87 .sub .i64 (.v 84) (.v 86), .bin 88 .and .i64 (.v 82) (.l 65535), .bin 89 .sub .i64 (.v 16) (.l 32767), .bin 90 .shr .i64 (.v 87) (.l 16), .bin 91 .and .i64 (.v 90) (.l 1), .bin 92 .sub .i64 (.v 89) (.v 91), .bin 93 .and .i64 (.v 87) (.l 65535), .cmp 94 .lss (.v 92) (.l 0), .cond 94 true] [.v 0, .v 1, .v 2, .v 3, .v 4, .v 5, .v 6, .v 7, .v 8, .v 9, .v 10, .v 11, .v 12, .v 13, .v 14, .v 15, .v 16] = true := by kernel_rfl
set_option maxHeartbeats 8000000 in
theorem ou_nxt : roundB Try.prog GT1 300 5 (loopAt 0 ouB) ouT [true,false] none [.cmp 17 .lss (.v 0) (.l 3), .cond 17 true, .bin 18 .sub .i64 (.v 1) (.l 65517), .bin 19 .sub .i64 (.v 2) (.l 65535), .bin 20 .shr .i64 (.v 18) (.l 16), .bin 21 .and .i64 (.v 20) (.l 1), .bin 22 .sub .i64 (.v 19) (.v 21), .bin 23 .and .i64 (.v 18) (.l 65535), .bin 24 .sub .i64 (.v 3) (.l 65535), .bin 25 .shr .i64 (.v 22) (.l 16), .bin 26 .and .i64 (.v 25) (.l 1), .bin 27 .sub .i64 (.v 24) (.v 26), .bin 28 .and .i64 (.v 22) (.l 65535), .bin 29 .sub .i64 (.v 4) (.l 65535), .bin 30 .shr .i64 (.v 27) (.l 16), .bin 31 .and .i64 (.v 30) (.l 1), .bin 32 .sub .i64 (.v 29) (.v 31), .bin 33 .and .i64 (.v 27) (.l 65535), .bin 34 .sub .i64 (.v 5) (.l 65535), .bin 35 .shr .i64 (.v 32) (.l 16), .bin 36 .and .i64 (.v 35) (.l 1), .bin 37 .sub .i64 (.v 34) (.v 36), .bin 38 .and .i64 (.v 32) (.l 65535), .bin 39 .sub .i64 (.v 6) (.l 65535), .bin 40 .shr .i64 (.v 37) (.l 16), .bin 41 .and .i64 (.v 40) (.l 1), .bin 42 .sub .i64 (.v 39) (.v 41), .bin 43 .and .i64 (.v 37) (.l 65535), .bin 44 .sub .i64 (.v 7) (.l 65535), .bin 45 .shr .i64 (.v 42) (.l 16), .bin 46 .and .i64 (.v 45) (.l 1), .bin 47 .sub .i64 (.v 44) (.v 46), .bin 48 .and .i64 (.v 42) (.l 65535), .bin 49 .sub .i64 (.v 8) (.l 65535), .bin 50 .shr .i64 (.v 47) (.l 16), .bin 51 .and .i64 (.v 50) (.l 1), .bin 52 .sub .i64 (.v 49) (.v 51), .bin 53 .and .i64 (.v 47) (.l 65535), .bin 54 .sub .i64 (.v 9) (.l 65535), .bin 55 .shr .i64 (.v 52) (.l 16), .bin 56 .and .i64 (.v 55) (.l 1), .bin 57 .sub .i64 (.v 54) (.v 56), .bin 58 .and .i64 (.v 52) (.l 65535), .bin 59 .sub .i64 (.v 10) (.l 65535), .bin 60 .shr .i64 (.v 57) (.l 16), .bin 61 .and .i64 (.v 60) (.l 1), .bin 62 .sub .i64 (.v 59) (.v 61), .bin 63 .and .i64 (.v 57) (.l 65535), .bin 64 .sub .i64 (.v 11) (.l 65535), .bin 65 .shr .i64 (.v 62) (.l 16), .bin 66 .and .i64 (.v 65) (.l 1), .bin 67 .sub .i64 (.v 64) (.v 66), .bin 68 .and .i64 (.v 62) (.l 65535), .bin 69 .sub .i64 (.v 12) (.l 65535), .bin 70 .shr .i64 (.v 67) (.l 16), .bin 71 .and .i64 (.v 70) (.l 1), .bin 72 .sub .i64 (.v 69) (.v 71), .bin 73 .and .i64 (.v 67) (.l 65535), .bin 74 .sub .i64 (.v 13) (.l 65535), .bin 75 .shr .i64 (.v 72) (.l 16), .bin 76 .and .i64 (.v 75) (.l 1), .bin 77 .sub .i64 (.v 74) (.v 76), .bin 78 .and .i64 (.v 72) (.l 65535), .bin 79 .sub .i64 (.v 14) (.l 65535), .bin 80 .shr .i64 (.v 77) (.l 16), .bin 81 .and .i64 (.v 80) (.l 1), .bin 82 .sub .i64 (.v 79) (.v 81), .bin 83 .and .i64 (.v 77) (.l 65535), .bin 84 .sub .i64 (.v 15) (.l 65535), .bin 85 .shr .i64 (.v 82) (.l 16), .bin 86 .and .i64 (.v 85) (.l 1), .bin 87 .sub .i64 (.v 84) (.v 86), .bin 88 .and .i64 (.v 82) (.l 65535), .bin 89 .sub .i64 (.v 16) (.l 32767), .bin 90 .shr .i64 (.v 87) (.l 16), .bin 91 .and .i64 (.v 90) (.l 1), .bin 92 .sub .i64 (.v 89) (.v 91), .bin 93 .and .i64 (.v 87) (.l 65535), .cmp 94 .lss (.v 92) (.l 0), .cond 94 false, .bin 95 .add .i64 (.v 0) (.l 1)] [.v 95, .v 23, .v 28, .v 33, .v 38, .v 43, .v 48, .v 53, .v 58, .v 63, .v 68, .v 73, .v 78, .v 83, .v 88, .v 93, .v 92] = true := by kernel_rfl
set_option maxHeartbeats 8000000 in
theorem ou_go {cl : Code} (hb : loopAt 0 ouB = some cl) {ρ0 ρT : Nat → Int} (hI : ouI ρ0 ρT) :
    ∃ e x', RoundEnd Try.prog sfns (callN Try.prog GT1 300 5) 300 cl ouT.slT ouT.memT ouT.m ρT e x' ∧ ((e = .normal ∧ ouI ρ0 x' ∧ (3 - x' 0).toNat < (3 - ρT 0).toNat) ∨ (e = .exit ouT.xid ∧ ∀ i, i < ouT.m → x' i = (sfns.g ouT.j [xs ouT.m ρ0]).getD i 0)) := by
  obtain ⟨i1, i2, i3, i4⟩ := hI
  have hP := PP_lt
  have hbd := dig16_dv i2
  rw [seg_len, Q16] at hbd
  have hpn : 0 ≤ ρT 0 * PP := Int.mul_nonneg i1 (by omega)
  have hlt3 : ρT 0 < 3 := by
    rcases Int.lt_or_le (ρT 0) 3 with h | h
    · exact h
    · have := Int.mul_le_mul_of_nonneg_right h (show 0 ≤ PP by omega); omega
  obtain ⟨V, hV⟩ : ∃ V, V = dv 65536 (seg ρT 1 16) := ⟨_, rfl⟩
  rw [← hV] at hbd i4
  by_cases c : V < PP
  · have hk := ou_brk
    rw [hb] at hk
    refine ⟨.exit 0, ρT, RoundEnd.of (e := some 0) hk fun ρ hρ hd => ?_, .inr ⟨rfl, fun i hi => ?_⟩⟩
    · have hρ : ∀ i, i < 17 → ρ i = ρT i := hρ
      have r0 : ρ 0 = ρT 0 := hρ 0 (by decide)
      have so : seg ρ 1 16 = seg ρT 1 16 := seg_congr fun i hi => hρ _ (by omega)
      have dX : Dig16 (seg ρ 1 16) := by rw [so]; exact i2
      obtain ⟨h17, ⟨vM, tn, dN⟩, h94⟩ := brk_law dX hd
      have e0 : dv 65536 [ρ 1, ρ 2, ρ 3, ρ 4, ρ 5, ρ 6, ρ 7, ρ 8, ρ 9, ρ 10, ρ 11, ρ 12, ρ 13, ρ 14, ρ 15, ρ 16] = V := (congrArg (dv 65536) so).trans hV.symm
      rw [e0] at tn
      have k17 := bit_true h17 (decide_eq_true (by rw [r0]; exact hlt3))
      have k94 := bit_true h94 (decide_eq_true (tn.1 (Int.sub_neg_of_lt c)))
      refine ⟨by simp only [G_nil, G_bin, G_cmp, G_not, G_conv, G_eqs, G_call, G_cond, G_need, G_idx, G_sel, G_upd, G_shv, G_beq, List.map_cons, List.map_nil, Ref.den]; exact ⟨k17, k94, trivial⟩, fun i hi => ?_⟩
      show ([ρ 0] ++ seg ρ 1 16).getD i 0 = _
      rw [← ou_get ρ hi, hρ i hi]
    · have hi : i < 17 := hi
      have hs : (xs 17 ρ0).drop 1 = seg ρ0 1 16 := by
        have := xs_drop (ρ := ρ0) (M := 17) (o := 1) (n := 16) (by omega)
        rw [List.take_of_length_le (by simp [xs])] at this; exact this
      show ρT i = ([dv 65536 ((xs 17 ρ0).drop 1) / PP] ++ dg 65536 16 (dv 65536 ((xs 17 ρ0).drop 1) % PP)).getD i 0
      rw [hs, ou_get ρT hi]
      have e : dv 65536 (seg ρ0 1 16) = V + PP * ρT 0 := by rw [i4, Int.mul_comm]; omega
      have ed : dv 65536 (seg ρ0 1 16) / PP = ρT 0 := by rw [e, Int.add_mul_ediv_left _ _ (by omega), Int.ediv_eq_zero_of_lt hbd.1 c, Int.zero_add]
      have em : dv 65536 (seg ρ0 1 16) % PP = V := by rw [e, Int.add_mul_emod_self_left, Int.emod_eq_of_lt hbd.1 c]
      rw [ed, em, hV, ← dg16 (seg_len _ _ _) i2]
  · have hk := ou_nxt
    rw [hb] at hk
    have hv : 0 ≤ V - PP ∧ V - PP < WW := by omega
    refine ⟨.normal, fun i => ([ρT 0 + 1] ++ (dg 65536 16 (V - PP) ++ [])).getD i 0, RoundEnd.of (e := none) hk fun ρ hρ hd => ?_, .inl ⟨rfl, ?_⟩⟩
    · have hρ : ∀ i, i < 17 → ρ i = ρT i := hρ
      have r0 : ρ 0 = ρT 0 := hρ 0 (by decide)
      have so : seg ρ 1 16 = seg ρT 1 16 := seg_congr fun i hi => hρ _ (by omega)
      have dX : Dig16 (seg ρ 1 16) := by rw [so]; exact i2
      obtain ⟨h17, ⟨vM, tn, dN⟩, h94, h95⟩ := go_law dX hd
      rw [r0] at h95
      have e0 : dv 65536 [ρ 1, ρ 2, ρ 3, ρ 4, ρ 5, ρ 6, ρ 7, ρ 8, ρ 9, ρ 10, ρ 11, ρ 12, ρ 13, ρ 14, ρ 15, ρ 16] = V := (congrArg (dv 65536) so).trans hV.symm
      rw [e0] at tn vM
      have nn : ¬ ρ 92 < 0 := fun q => c (Int.lt_of_sub_neg (tn.2 q))
      have k17 := bit_true h17 (decide_eq_true (by rw [r0]; exact hlt3))
      have k94 := bit_false h94 (decide_eq_false nn)
      have sM := dg16 rfl (dN nn)
      rw [vM] at sM
      have e95 : ρ 95 = ρT 0 + 1 := inc_i h95 i1 hlt3
      refine ⟨by simp only [G_nil, G_bin, G_cmp, G_not, G_conv, G_eqs, G_call, G_cond, G_need, G_idx, G_sel, G_upd, G_shv, G_beq, List.map_cons, List.map_nil, Ref.den]; exact ⟨k17, k94, trivial⟩, fun i hi => ?_⟩
      show ([ρ 95] ++ ([ρ 23, ρ 28, ρ 33, ρ 38, ρ 43, ρ 48, ρ 53, ρ 58, ρ 63, ρ 68, ρ 73, ρ 78, ρ 83, ρ 88, ρ 93, ρ 92] ++ [])).getD i 0 = _
      rw [sM, e95]
    · obtain ⟨x', hx⟩ : ∃ x', x' = fun i => ([ρT 0 + 1] ++ (dg 65536 16 (V - PP) ++ [])).getD i 0 := ⟨_, rfl⟩
      rw [← hx]
      have x0 : x' 0 = ρT 0 + 1 := by rw [hx]; rfl
      have xa : seg x' 1 16 = dg 65536 16 (V - PP) := by
        have := seg_mid [ρT 0 + 1] (dg 65536 16 (V - PP)) []
        rw [dg_len] at this; rw [hx]; exact this
      refine ⟨⟨by rw [x0]; omega, by rw [xa]; exact dg16_dig _, i3, ?_⟩, by rw [x0]; omega⟩
      rw [xa, x0, dv16 hv.1 hv.2, i4, Int.add_mul]; omega
set_option maxHeartbeats 8000000 in
theorem okOut : CtrOK Try.prog sfns cOut := by
  refine CtrOK.ofL (t := ouT) (k := 0) (fn := Try.f52) (body := ouB) okGT1 mixed (lf := 300) (d := 5) (by kernel_rfl) (by kernel_rfl) ?_ rfl fun w vs xs ha hp => ?_
  · intro cl hcl
    refine ⟨ouI, fun ρ => (3 - ρ 0).toNat, fun ρ0 hT hp => ?_, fun ρ0 ρT hT hI => ou_go hcl hI⟩
    have hp : (Go.Sx.xs 17 ρ0).getD 0 0 = 0 ∧ Dig16 (((Go.Sx.xs 17 ρ0).drop 1).take 16) := hp
    rw [xs_get (by omega), xs_drop (by omega)] at hp
    obtain ⟨p1, p2⟩ := hp
    have hb := dig16_dv p2
    rw [seg_len, Q16] at hb
    exact ⟨by omega, p2, hb.2, by rw [p1, Int.zero_mul, Int.sub_zero]⟩
  · obtain ⟨v, a, rfl, rfl, ⟨la, -, ia⟩⟩ := open1 ha
    have hp : FF a := hp
    obtain ⟨D, hD⟩ : ∃ D, D = carL a := ⟨_, rfl⟩
    have hdig : Dig16 D := by rw [hD]; exact carL_dig hp
    have hmod : dv 65536 D % PP = dv 65536 a % PP := by rw [hD]; exact carL_mod la
    have hsame := carL_same hdig
    have b0 : Bd 1152921504606846976 a := bd_mono (ff_bd hp) (by decide)
    have b1 : Bd 1152921504606846976 D := fun z hz => by have := hdig z hz; omega
    have hmW := mod_W (dv 65536 a)
    refine WayL.of (dec := []) (fs := [.need 50 [[.v 0, .v 1, .v 2, .v 3, .v 4, .v 5, .v 6, .v 7, .v 8, .v 9, .v 10, .v 11, .v 12, .v 13, .v 14, .v 15]], .call 16 50 [[.v 0, .v 1, .v 2, .v 3, .v 4, .v 5, .v 6, .v 7, .v 8, .v 9, .v 10, .v 11, .v 12, .v 13, .v 14, .v 15]] 16, .need 50 [[.v 16, .v 17, .v 18, .v 19, .v 20, .v 21, .v 22, .v 23, .v 24, .v 25, .v 26, .v 27, .v 28, .v 29, .v 30, .v 31]], .call 32 50 [[.v 16, .v 17, .v 18, .v 19, .v 20, .v 21, .v 22, .v 23, .v 24, .v 25, .v 26, .v 27, .v 28, .v 29, .v 30, .v 31]] 16, .need 50 [[.v 32, .v 33, .v 34, .v 35, .v 36, .v 37, .v 38, .v 39, .v 40, .v 41, .v 42, .v 43, .v 44, .v 45, .v 46, .v 47]], .call 48 50 [[.v 32, .v 33, .v 34, .v 35, .v 36, .v 37, .v 38, .v 39, .v 40, .v 41, .v 42, .v 43, .v 44, .v 45, .v 46, .v 47]] 16, .need 59 [[.l 0, .v 48, .v 49, .v 50, .v 51, .v 52, .v 53, .v 54, .v 55, .v 56, .v 57, .v 58, .v 59, .v 60, .v 61, .v 62, .v 63]], .call 64 59 [[.l 0, .v 48, .v 49, .v 50, .v 51, .v 52, .v 53, .v 54, .v 55, .v 56, .v 57, .v 58, .v 59, .v 60, .v 61, .v 62, .v 63]] 17, .conv 81 .u8 (.v 65), .bin 82 .shr .i64 (.v 65) (.l 8), .conv 83 .u8 (.v 82), .conv 84 .u8 (.v 66), .bin 85 .shr .i64 (.v 66) (.l 8), .conv 86 .u8 (.v 85), .conv 87 .u8 (.v 67), .bin 88 .shr .i64 (.v 67) (.l 8), .conv 89 .u8 (.v 88), .conv 90 .u8 (.v 68), .bin 91 .shr .i64 (.v 68) (.l 8), .conv 92 .u8 (.v 91), .conv 93 .u8 (.v 69), .bin 94 .shr .i64 (.v 69) (.l 8), .conv 95 .u8 (.v 94), .conv 96 .u8 (.v 70), .bin 97 .shr .i64 (.v 70) (.l 8), .conv 98 .u8 (.v 97), .conv 99 .u8 (.v 71), .bin 100 .shr .i64 (.v 71) (.l 8), .conv 101 .u8 (.v 100), .conv 102 .u8 (.v 72), .bin 103 .shr .i64 (.v 72) (.l 8), .conv 104 .u8 (.v 103), .conv 105 .u8 (.v 73), .bin 106 .shr .i64 (.v 73) (.l 8), .conv 107 .u8 (.v 106), .conv 108 .u8 (.v 74), .bin 109 .shr .i64 (.v 74) (.l 8), .conv 110 .u8 (.v 109), .conv 111 .u8 (.v 75), .bin 112 .shr .i64 (.v 75) (.l 8), .conv 113 .u8 (.v 112), .conv 114 .u8 (.v 76), .bin 115 .shr .i64 (.v 76) (.l 8), .conv 116 .u8 (.v 115), .conv 117 .u8 (.v 77), .bin 118 .shr .i64 (.v 77) (.l 8), .conv 119 .u8 (.v 118), .conv 120 .u8 (.v 78), .bin 121 .shr .i64 (.v 78) (.l 8), .conv 122 .u8 (.v 121), .conv 123 .u8 (.v 79), .bin 124 .shr .i64 (.v 79) (.l 8), .conv 125 .u8 (.v 124), .conv 126 .u8 (.v 80), .bin 127 .shr .i64 (.v 80) (.l 8), .conv 128 .u8 (.v 127)]) (refs := [.v 81, .v 83, .v 84, .v 86, .v 87, .v 89, .v 90, .v 92, .v 93, .v 95, .v 96, .v 98, .v 99, .v 101, .v 102, .v 104, .v 105, .v 107, .v 108, .v 110, .v 111, .v 113, .v 114, .v 116, .v 117, .v 119, .v 120, .v 122, .v 123, .v 125, .v 126, .v 128]) (by kernel_rfl) fun ρ hρ hd => ?_
    have ea : seg ρ 0 16 = a := seg_of (fun i hi => by rw [Nat.zero_add, hρ i hi]; simp only [flat, List.flatten_cons, List.flatten_nil, List.append_nil]) la
    simp only [D_nil, D_add, D_sub, D_mul, D_and, D_or, D_xor, D_shl, D_shr, D_andNot, D_quo, D_rem, D_add_i64, D_sub_i64, D_mul_i64, D_add_u32, D_sub_u32, D_mul_u32, D_add_u8, D_sub_u8, D_mul_u8, D_eql, D_neq, D_lss, D_leq, D_gtr, D_geq, D_not, D_conv, D_eqs, D_call, D_cond, D_need, D_idx, D_sel, D_upd, D_shv, D_beq, List.map_cons, List.map_nil, Ref.den, c_u8] at hd
    obtain ⟨h16, h32, h48, h64, h81, h82, h83, h84, h85, h86, h87, h88, h89, h90, h91, h92, h93, h94, h95, h96, h97, h98, h99, h100, h101, h102, h103, h104, h105, h106, h107, h108, h109, h110, h111, h112, h113, h114, h115, h116, h117, h118, h119, h120, h121, h122, h123, h124, h125, h126, h127, h128, -⟩ := hd
    have s16 : seg ρ 16 16 = carL (seg ρ 0 16) := seg_of h16 (carL_len (seg_len _ _ _))
    have s32 : seg ρ 32 16 = carL (seg ρ 16 16) := seg_of h32 (carL_len (seg_len _ _ _))
    have s48 : seg ρ 48 16 = carL (seg ρ 32 16) := seg_of h48 (carL_len (seg_len _ _ _))
    rw [ea, ← hD] at s16
    rw [s16, hsame] at s32
    rw [s32, hsame] at s48
    have s64 : ∀ i, i < 17 → ρ (64 + i) = ([dv 65536 (seg ρ 48 16) / PP] ++ dg 65536 16 (dv 65536 (seg ρ 48 16) % PP)).getD i 0 := fun i hi => h64 i hi
    rw [s48, hmod] at s64
    have s65 : seg ρ 65 16 = dg 65536 16 (dv 65536 a % PP) := by
      refine seg_of (fun i hi => ?_) (dg_len _ _ _)
      rw [show 65 + i = 64 + (1 + i) by omega, s64 (1 + i) (by omega)]
      simp only [List.getD_eq_getElem?_getD]
      rw [List.getElem?_append_right (by simp)]
      simp
    have y0 := byte_step h81 h82 h83
    have y1 := byte_step h84 h85 h86
    have y2 := byte_step h87 h88 h89
    have y3 := byte_step h90 h91 h92
    have y4 := byte_step h93 h94 h95
    have y5 := byte_step h96 h97 h98
    have y6 := byte_step h99 h100 h101
    have y7 := byte_step h102 h103 h104
    have y8 := byte_step h105 h106 h107
    have y9 := byte_step h108 h109 h110
    have y10 := byte_step h111 h112 h113
    have y11 := byte_step h114 h115 h116
    have y12 := byte_step h117 h118 h119
    have y13 := byte_step h120 h121 h122
    have y14 := byte_step h123 h124 h125
    have y15 := byte_step h126 h127 h128
    have sy : [ρ 81, ρ 83, ρ 84, ρ 86, ρ 87, ρ 89, ρ 90, ρ 92, ρ 93, ρ 95, ρ 96, ρ 98, ρ 99, ρ 101, ρ 102, ρ 104, ρ 105, ρ 107, ρ 108, ρ 110, ρ 111, ρ 113, ρ 114, ρ 116, ρ 117, ρ 119, ρ 120, ρ 122, ρ 123, ρ 125, ρ 126, ρ 128] = bytes16 (seg ρ 65 16) := bytes_cons y0.1 y0.2 (bytes_cons y1.1 y1.2 (bytes_cons y2.1 y2.2 (bytes_cons y3.1 y3.2 (bytes_cons y4.1 y4.2 (bytes_cons y5.1 y5.2 (bytes_cons y6.1 y6.2 (bytes_cons y7.1 y7.2 (bytes_cons y8.1 y8.2 (bytes_cons y9.1 y9.2 (bytes_cons y10.1 y10.2 (bytes_cons y11.1 y11.2 (bytes_cons y12.1 y12.2 (bytes_cons y13.1 y13.2 (bytes_cons y14.1 y14.2 (bytes_cons y15.1 y15.2 (rfl))))))))))))))))
    refine ⟨?_, ?_⟩
    · simp only [G_nil, G_bin, G_cmp, G_not, G_conv, G_eqs, G_call, G_cond, G_need, G_idx, G_sel, G_upd, G_shv, G_beq, List.map_cons, List.map_nil, Ref.den]
      refine ⟨?_, ?_, ?_, ⟨rfl, ?_⟩, trivial⟩
      · show Bd 1152921504606846976 (seg ρ 0 16); rw [ea]; exact b0
      · show Bd 1152921504606846976 (seg ρ 16 16); rw [s16]; exact b1
      · show Bd 1152921504606846976 (seg ρ 32 16); rw [s32]; exact b1
      · show Dig16 (seg ρ 48 16); rw [s48]; exact hdig
    · show [ρ 81, ρ 83, ρ 84, ρ 86, ρ 87, ρ 89, ρ 90, ρ 92, ρ 93, ρ 95, ρ 96, ρ 98, ρ 99, ρ 101, ρ 102, ρ 104, ρ 105, ρ 107, ρ 108, ρ 110, ρ 111, ρ 113, ρ 114, ρ 116, ρ 117, ρ 119, ρ 120, ρ 122, ρ 123, ρ 125, ρ 126, ρ 128] = dg 256 32 (dv 65536 a % PP)
      rw [sy, s65]
      have h1 := bytes16_dv (dg16_dig (dv 65536 a % PP))
      rw [dv16 hmW.1 hmW.2] at h1
      have h2 := dg_dv (by decide) (bytes16_dig (dg 65536 16 (dv 65536 a % PP)))
      rw [bytes16_len, dg_len, h1] at h2
      exact h2.symm
end Go.Proofs.Ytfobnajgnnccmaa
end
section
namespace Go.Bx
theorem eight : (2 : Int) ^ 8 = 256 := by decide
theorem mulF_ff {a b : List Int} (ha : FF a) (hb : FF b) : FF (mulF a b) := by
  have hok := timN_ok ha.len hb.len (ff_bd ha) (ff_bd hb) 16 (by omega)
  have hzb : Bd 68797093264 (timN a b (List.replicate 31 0) 16) := bd_mono hok.2.1 (by decide)
  exact carL_two (foldF_len _) (bd_mono (foldF_bd (m := 68797093264) (by decide) hzb) (by decide))
theorem mulF_mod {a b : List Int} (ha : FF a) (hb : FF b) : dv 65536 (mulF a b) % PP = (dv 65536 a * dv 65536 b) % PP := by
  have hok := timN_ok ha.len hb.len (ff_bd ha) (ff_bd hb) 16 (by omega)
  unfold mulF
  rw [carL_mod (carL_len (foldF_len _)), carL_mod (foldF_len _)]
  have h := foldF_dv hok.1
  rw [hok.2.2, List.take_of_length_le (by rw [ha.len]; omega), Q16] at h
  rw [h]
  generalize dv 65536 (foldF (timN a b (List.replicate 31 0) 16)) = x
  generalize dv 65536 ((timN a b (List.replicate 31 0) 16).drop 16) = y
  rw [show x + (WW - 38) * y = x + PP * (2 * y) by simp only [WW, PP]; omega, Int.add_mul_emod_self_left]
theorem oneF_ff : FF oneF := dig_ff rfl (by intro z hz; simp only [oneF, List.mem_cons, List.not_mem_nil, or_false] at hz; omega)
theorem powF_ff {a : List Int} (ha : FF a) (n : Int) : ∀ k, FF (powF a n k)
  | 0 => oneF_ff
  | k + 1 => by
    have ih := powF_ff ha n k
    unfold powF
    split
    · exact mulF_ff (mulF_ff ih ih) ha
    · exact mulF_ff ih ih
theorem powF_mod {a : List Int} (ha : FF a) {A : Int} (hA : dv 65536 a % PP = A % PP) (n : Int) : ∀ k, dv 65536 (powF a n k) % PP = powZ A n k % PP
  | 0 => by show dv 65536 oneF % PP = 1 % PP; rfl
  | k + 1 => by
    have ih := powF_mod ha hA n k
    have hf := powF_ff ha n k
    unfold powF powZ
    split
    · rw [mulF_mod (mulF_ff hf hf) ha, mul_congP (mulF_mod hf hf) hA, timesZ_mod, mul_congP (timesZ_mod (powZ A n k) (powZ A n k)) (rfl : A % PP = A % PP), mul_congP (mul_congP ih ih) (rfl : A % PP = A % PP)]
    · rw [mulF_mod hf hf, timesZ_mod, mul_congP ih ih]
theorem powF_len {a : List Int} (ha : FF a) (n : Int) (k : Nat) : (powF a n k).length = 16 := (powF_ff ha n k).len
end Go.Bx
namespace Go.Proofs.Ytfobnajgnnccmaa
open Go.RowKit Go.Bx Go.Sx
set_option linter.unusedSimpArgs false
set_option maxRecDepth 100000
def cFPow : Ctr := ⟨102, 56, [.arr .i64 16, .arr .u8 32], [.arr .i64 16]⟩
def GT2 : List Ctr := [cFTimes]
theorem okGT2 : ∀ c ∈ GT2, CtrOK Try.prog sfns c := by
  intro c hc
  rcases List.mem_singleton.1 hc with rfl
  exact okFTimes
noncomputable def pwT : LoopT := ⟨[.any, .any, .c (.ptr 0 0), .c (.ptr 1 0), .c (.ptr 2 0), .c (.ptr 3 0), .c (.int .i64 (.v 0)), .any, .any, .any, .any, .any, .any, .any, .any, .any, .any, .any, .any, .any, .any, .any, .any, .any, .any, .any, .any, .any, .any], [some ⟨65, [.int .i64 (.v 1), .int .i64 (.v 2), .int .i64 (.v 3), .int .i64 (.v 4), .int .i64 (.v 5), .int .i64 (.v 6), .int .i64 (.v 7), .int .i64 (.v 8), .int .i64 (.v 9), .int .i64 (.v 10), .int .i64 (.v 11), .int .i64 (.v 12), .int .i64 (.v 13), .int .i64 (.v 14), .int .i64 (.v 15), .int .i64 (.v 16)]⟩, some ⟨26, [.int .u8 (.v 17), .int .u8 (.v 18), .int .u8 (.v 19), .int .u8 (.v 20), .int .u8 (.v 21), .int .u8 (.v 22), .int .u8 (.v 23), .int .u8 (.v 24), .int .u8 (.v 25), .int .u8 (.v 26), .int .u8 (.v 27), .int .u8 (.v 28), .int .u8 (.v 29), .int .u8 (.v 30), .int .u8 (.v 31), .int .u8 (.v 32), .int .u8 (.v 33), .int .u8 (.v 34), .int .u8 (.v 35), .int .u8 (.v 36), .int .u8 (.v 37), .int .u8 (.v 38), .int .u8 (.v 39), .int .u8 (.v 40), .int .u8 (.v 41), .int .u8 (.v 42), .int .u8 (.v 43), .int .u8 (.v 44), .int .u8 (.v 45), .int .u8 (.v 46), .int .u8 (.v 47), .int .u8 (.v 48)]⟩, some ⟨65, [.int .i64 (.l 0), .int .i64 (.l 0), .int .i64 (.l 0), .int .i64 (.l 0), .int .i64 (.l 0), .int .i64 (.l 0), .int .i64 (.l 0), .int .i64 (.l 0), .int .i64 (.l 0), .int .i64 (.l 0), .int .i64 (.l 0), .int .i64 (.l 0), .int .i64 (.l 0), .int .i64 (.l 0), .int .i64 (.l 0), .int .i64 (.l 0)]⟩, some ⟨65, [.int .i64 (.v 49), .int .i64 (.v 50), .int .i64 (.v 51), .int .i64 (.v 52), .int .i64 (.v 53), .int .i64 (.v 54), .int .i64 (.v 55), .int .i64 (.v 56), .int .i64 (.v 57), .int .i64 (.v 58), .int .i64 (.v 59), .int .i64 (.v 60), .int .i64 (.v 61), .int .i64 (.v 62), .int .i64 (.v 63), .int .i64 (.v 64)]⟩], 65, 62, 0, [.l 255, .v 0, .v 1, .v 2, .v 3, .v 4, .v 5, .v 6, .v 7, .v 8, .v 9, .v 10, .v 11, .v 12, .v 13, .v 14, .v 15, .v 16, .v 17, .v 18, .v 19, .v 20, .v 21, .v 22, .v 23, .v 24, .v 25, .v 26, .v 27, .v 28, .v 29, .v 30, .v 31, .v 32, .v 33, .v 34, .v 35, .v 36, .v 37, .v 38, .v 39, .v 40, .v 41, .v 42, .v 43, .v 44, .v 45, .v 46, .v 47, .l 1, .l 0, .l 0, .l 0, .l 0, .l 0, .l 0, .l 0, .l 0, .l 0, .l 0, .l 0, .l 0, .l 0, .l 0, .l 0]⟩
noncomputable def pwB : Code := (Try.f102).body.getD .skip
theorem split48 {ρ ρ' : Nat → Int} (h : seg ρ 1 48 = seg ρ' 1 48) : seg ρ 1 16 = seg ρ' 1 16 ∧ seg ρ 17 32 = seg ρ' 17 32 := by
  rw [seg_sp ρ 1 16 32, seg_sp ρ' 1 16 32] at h
  exact List.append_inj h (by rw [seg_len, seg_len])
theorem pw_get (ρ : Nat → Int) {i : Nat} (hi : i < 65) : ρ i = ([ρ 0] ++ (seg ρ 1 48 ++ seg ρ 49 16)).getD i 0 := by
  rw [show [ρ 0] ++ (seg ρ 1 48 ++ seg ρ 49 16) = seg ρ 0 65 from rfl, seg_get hi, Nat.zero_add]
theorem pw_dig {ρ : Nat → Int} (hT : TOk pwT.slT pwT.memT ρ) : Dig 256 (seg ρ 17 32) := by
  have h2 : ∀ c ∈ (List.range 32).map (fun i => C.int .u8 (.v (17 + i))), C.inr ρ c := hT.m _ (List.mem_cons_of_mem _ (List.mem_cons_self ..))
  exact dig8 (seg_inr h2)
def pwI (ρ0 ρ : Nat → Int) : Prop :=
  seg ρ 1 48 = seg ρ0 1 48 ∧ -1 ≤ ρ 0 ∧ ρ 0 ≤ 255 ∧ FF (seg ρ0 1 16) ∧ Dig 256 (seg ρ0 17 32) ∧ seg ρ 49 16 = powF (seg ρ0 1 16) (dv 256 (seg ρ0 17 32)) (255 - ρ 0).toNat
theorem pw_after {ρ0 ρT : Nat → Int} {n : Nat} (hn : ρT 0 = n) (i2 : ρT 0 ≤ 255) (fA : FF (seg ρ0 1 16)) (dN : Dig 256 (seg ρ0 17 32)) {O : List Int} (hO : O = powF (seg ρ0 1 16) (dv 256 (seg ρ0 17 32)) (255 - n + 1)) {x' : Nat → Int} (hx : x' = fun i => ([ρT 0 - 1] ++ (seg ρ0 1 48 ++ O)).getD i 0) : pwI ρ0 x' ∧ (x' 0 + 1).toNat < (ρT 0 + 1).toNat := by
  have x0 : x' 0 = ρT 0 - 1 := by rw [hx]; rfl
  have lO : O.length = 16 := by rw [hO]; exact powF_len fA _ _
  have xa : seg x' 1 48 = seg ρ0 1 48 := by
    have := seg_mid [ρT 0 - 1] (seg ρ0 1 48) O
    rw [seg_len] at this; rw [hx]; exact this
  have xb : seg x' 49 16 = O := by
    have := seg_end [ρT 0 - 1] (seg ρ0 1 48) O
    rw [seg_len, lO] at this; rw [hx]; exact this
  exact ⟨⟨xa, by rw [x0]; omega, by rw [x0]; omega, fA, dN, by rw [xb, hO, x0]; congr 1; omega⟩, by rw [x0]; omega⟩
theorem pw_go {cl : Code} (hb : loopAt 0 pwB = some cl) {ρ0 ρT : Nat → Int} (hI : pwI ρ0 ρT) (hge : 0 ≤ ρT 0) :
    ∃ e x', RoundEnd Try.prog sfns (callN Try.prog GT2 300 5) 300 cl pwT.slT pwT.memT pwT.m ρT e x' ∧ ((e = .normal ∧ pwI ρ0 x' ∧ (x' 0 + 1).toNat < (ρT 0 + 1).toNat) ∨ (e = .exit pwT.xid ∧ ∀ i, i < pwT.m → x' i = (sfns.g pwT.j [xs pwT.m ρ0]).getD i 0)) := by
  obtain ⟨i1, i2, i3, fA, dN, i4⟩ := hI
  obtain ⟨n, hn⟩ := Int.eq_ofNat_of_zero_le hge
  have hn255 : n ≤ 255 := by omega
  rw [hn, show (255 - (n : Int)).toNat = 255 - n by omega] at i4
  have fO := powF_ff fA (dv 256 (seg ρ0 17 32)) (255 - n)
  obtain ⟨O, hO⟩ : ∃ O, O = powF (seg ρ0 1 16) (dv 256 (seg ρ0 17 32)) (255 - n) := ⟨_, rfl⟩
  rw [← hO] at i4 fO
  have hstep : powF (seg ρ0 1 16) (dv 256 (seg ρ0 17 32)) (255 - n + 1) = if dv 256 (seg ρ0 17 32) / 2 ^ n % 2 = 1 then mulF (mulF O O) (seg ρ0 1 16) else mulF O O := by
    rw [hO]
    show (if _ / 2 ^ (255 - (255 - n)) % 2 = 1 then _ else _) = _
    rw [show 255 - (255 - n) = n by omega]
  by_cases hbt : dv 256 (seg ρ0 17 32) / 2 ^ n % 2 = 1
  · rw [if_pos hbt] at hstep
    have hk : roundB Try.prog GT2 300 5 (loopAt 0 pwB) pwT [true,true] none [.cmp 65 .geq (.v 0) (.l 0), .cond 65 true, .need 55 [[.v 49, .v 50, .v 51, .v 52, .v 53, .v 54, .v 55, .v 56, .v 57, .v 58, .v 59, .v 60, .v 61, .v 62, .v 63, .v 64], [.v 49, .v 50, .v 51, .v 52, .v 53, .v 54, .v 55, .v 56, .v 57, .v 58, .v 59, .v 60, .v 61, .v 62, .v 63, .v 64]], .call 66 55 [[.v 49, .v 50, .v 51, .v 52, .v 53, .v 54, .v 55, .v 56, .v 57, .v 58, .v 59, .v 60, .v 61, .v 62, .v 63, .v 64], [.v 49, .v 50, .v 51, .v 52, .v 53, .v 54, .v 55, .v 56, .v 57, .v 58, .v 59, .v 60, .v 61, .v 62, .v 63, .v 64]] 16, .bin 82 .quo .i64 (.v 0) (.l 8), .idx 82 32, .sel 83 [.v 17, .v 18, .v 19, .v 20, .v 21, .v 22, .v 23, .v 24, .v 25, .v 26, .v 27, .v 28, .v 29, .v 30, .v 31, .v 32, .v 33, .v 34, .v 35, .v 36, .v 37, .v 38, .v 39, .v 40, .v 41, .v 42, .v 43, .v 44, .v 45, .v 46, .v 47, .v 48] 82, .bin 84 .rem .i64 (.v 0) (.l 8), .conv 85 .u64 (.v 84), .idx 85 1000000, .shv 86 false .u8 (.v 83) 85, .bin 87 .and .u8 (.v 86) (.l 1), .cmp 88 .eql (.v 87) (.l 1), .cond 88 true, .need 55 [[.v 66, .v 67, .v 68, .v 69, .v 70, .v 71, .v 72, .v 73, .v 74, .v 75, .v 76, .v 77, .v 78, .v 79, .v 80, .v 81], [.v 1, .v 2, .v 3, .v 4, .v 5, .v 6, .v 7, .v 8, .v 9, .v 10, .v 11, .v 12, .v 13, .v 14, .v 15, .v 16]], .call 89 55 [[.v 66, .v 67, .v 68, .v 69, .v 70, .v 71, .v 72, .v 73, .v 74, .v 75, .v 76, .v 77, .v 78, .v 79, .v 80, .v 81], [.v 1, .v 2, .v 3, .v 4, .v 5, .v 6, .v 7, .v 8, .v 9, .v 10, .v 11, .v 12, .v 13, .v 14, .v 15, .v 16]] 16, .bin 105 .sub .i64 (.v 0) (.l 1)] [.v 105, .v 1, .v 2, .v 3, .v 4, .v 5, .v 6, .v 7, .v 8, .v 9, .v 10, .v 11, .v 12, .v 13, .v 14, .v 15, .v 16, .v 17, .v 18, .v 19, .v 20, .v 21, .v 22, .v 23, .v 24, .v 25, .v 26, .v 27, .v 28, .v 29, .v 30, .v 31, .v 32, .v 33, .v 34, .v 35, .v 36, .v 37, .v 38, .v 39, .v 40, .v 41, .v 42, .v 43, .v 44, .v 45, .v 46, .v 47, .v 48, .v 89, .v 90, .v 91, .v 92, .v 93, .v 94, .v 95, .v 96, .v 97, .v 98, .v 99, .v 100, .v 101, .v 102, .v 103, .v 104] = true := by kernel_rfl
    rw [hb] at hk
    refine ⟨.normal, _, RoundEnd.of (e := none) hk fun ρ hρ hd => ?_, .inl ⟨rfl, pw_after hn i3 fA dN hstep.symm rfl⟩⟩
    have hρ : ∀ i, i < 65 → ρ i = ρT i := hρ
    have r0 : ρ 0 = (n : Int) := by rw [hρ 0 (by decide), hn]
    have sm : seg ρ 1 48 = seg ρ0 1 48 := (seg_congr fun i hi => hρ _ (by omega)).trans i1
    obtain ⟨sa, sn⟩ := split48 sm
    have so : seg ρ 49 16 = O := (seg_congr fun i hi => hρ _ (by omega)).trans i4
    simp only [D_nil, D_add, D_sub, D_mul, D_and, D_or, D_xor, D_shl, D_shr, D_andNot, D_quo, D_rem, D_add_i64, D_sub_i64, D_mul_i64, D_add_u32, D_sub_u32, D_mul_u32, D_add_u8, D_sub_u8, D_mul_u8, D_eql, D_neq, D_lss, D_leq, D_gtr, D_geq, D_not, D_conv, D_eqs, D_call, D_cond, D_need, D_idx, D_sel, D_upd, D_shv, D_beq, List.map_cons, List.map_nil, Ref.den, r0] at hd
    obtain ⟨h65, h66, h82, h83, h84, h85, h86, h87, h88, h89, h105, -⟩ := hd
    have e82 : ρ 82 = (n : Int) / 8 := i_quo 8 (by decide) (by omega) (by omega) rfl h82
    have e84 : ρ 84 = (n : Int) % 8 := i_rem 8 (by decide) (by omega) rfl h84
    have e85 : ρ 85 = ρ 84 := by rw [h85, c_u64]; omega
    have e83 : ρ 83 = (seg ρ0 17 32).getD (n / 8) 0 := by
      have h : ρ 83 = (seg ρ 17 32).getD (ρ 82).toNat 0 := h83
      rw [h, sn, e82, show ((n : Int) / 8).toNat = n / 8 by omega]
    have e86 := shv_r (n % 8) (by show n % 8 ≤ 8; omega) h86 (by rw [e85, e84]; omega)
    have e87 := k_and 1 (by decide) rfl h87
    rw [show (2 : Int) ^ 1 = 2 by decide] at e87
    have hbit := bit_of (w := 8) (l := seg ρ0 17 32) (i := n / 8) (r := n % 8) (by rw [eight]; exact dN) (by rw [seg_len]; omega) (by omega)
    rw [eight, show 8 * (n / 8) + n % 8 = n by omega] at hbit
    have e87' : ρ 87 = dv 256 (seg ρ0 17 32) / 2 ^ n % 2 := by rw [e87, e86, e83, hbit]
    have k65 := bit_true h65 (decide_eq_true (show (0 : Int) ≤ n by omega))
    have s66 : seg ρ 66 16 = mulF O O := by
      have := seg_of (ρ := ρ) (n := 66) (g := mulF (seg ρ 49 16) (seg ρ 49 16)) h66 (by rw [so]; exact (mulF_ff fO fO).len)
      rw [so] at this; exact this
    have k88 := bit_true h88 (decide_eq_true (e87'.trans hbt))
    have s89 : seg ρ 89 16 = mulF (mulF O O) (seg ρ0 1 16) := by
      have := seg_of (ρ := ρ) (n := 89) (g := mulF (seg ρ 66 16) (seg ρ 1 16)) h89 (by rw [s66, sa]; exact (mulF_ff (mulF_ff fO fO) fA).len)
      rw [s66, sa] at this; exact this
    refine ⟨?_, fun i hi => ?_⟩
    · simp only [G_nil, G_bin, G_cmp, G_not, G_conv, G_eqs, G_call, G_cond, G_need, G_idx, G_sel, G_upd, G_shv, G_beq, List.map_cons, List.map_nil, Ref.den, r0]
      refine ⟨k65, ?_, ⟨?_, ?_⟩, ⟨?_, ?_⟩, k88, ?_, trivial⟩
      · show FF (seg ρ 49 16) ∧ FF (seg ρ 49 16); rw [so]; exact ⟨fO, fO⟩
      · omega
      · omega
      · omega
      · omega
      · show FF (seg ρ 66 16) ∧ FF (seg ρ 1 16); rw [s66, sa]; exact ⟨mulF_ff fO fO, fA⟩
    · show ([ρ 105] ++ (seg ρ 1 48 ++ seg ρ 89 16)).getD i 0 = _
      rw [s89, sm, show ρ 105 = ρT 0 - 1 by rw [h105, IntKind.wrap_i64]; omega]
  · rw [if_neg hbt] at hstep
    have hk : roundB Try.prog GT2 300 5 (loopAt 0 pwB) pwT [true,false] none [.cmp 65 .geq (.v 0) (.l 0), .cond 65 true, .need 55 [[.v 49, .v 50, .v 51, .v 52, .v 53, .v 54, .v 55, .v 56, .v 57, .v 58, .v 59, .v 60, .v 61, .v 62, .v 63, .v 64], [.v 49, .v 50, .v 51, .v 52, .v 53, .v 54, .v 55, .v 56, .v 57, .v 58, .v 59, .v 60, .v 61, .v 62, .v 63, .v 64]], .call 66 55 [[.v 49, .v 50, .v 51, .v 52, .v 53, .v 54, .v 55, .v 56, .v 57, .v 58, .v 59, .v 60, .v 61, .v 62, .v 63, .v 64], [.v 49, .v 50, .v 51, .v 52, .v 53, .v 54, .v 55, .v 56, .v 57, .v 58, .v 59, .v 60, .v 61, .v 62, .v 63, .v 64]] 16, .bin 82 .quo .i64 (.v 0) (.l 8), .idx 82 32, .sel 83 [.v 17, .v 18, .v 19, .v 20, .v 21, .v 22, .v 23, .v 24, .v 25, .v 26, .v 27, .v 28, .v 29, .v 30, .v 31, .v 32, .v 33, .v 34, .v 35, .v 36, .v 37, .v 38, .v 39, .v 40, .v 41, .v 42, .v 43, .v 44, .v 45, .v 46, .v 47, .v 48] 82, .bin 84 .rem .i64 (.v 0) (.l 8), .conv 85 .u64 (.v 84), .idx 85 1000000, .shv 86 false .u8 (.v 83) 85, .bin 87 .and .u8 (.v 86) (.l 1), .cmp 88 .eql (.v 87) (.l 1), .cond 88 false, .bin 89 .sub .i64 (.v 0) (.l 1)] [.v 89, .v 1, .v 2, .v 3, .v 4, .v 5, .v 6, .v 7, .v 8, .v 9, .v 10, .v 11, .v 12, .v 13, .v 14, .v 15, .v 16, .v 17, .v 18, .v 19, .v 20, .v 21, .v 22, .v 23, .v 24, .v 25, .v 26, .v 27, .v 28, .v 29, .v 30, .v 31, .v 32, .v 33, .v 34, .v 35, .v 36, .v 37, .v 38, .v 39, .v 40, .v 41, .v 42, .v 43, .v 44, .v 45, .v 46, .v 47, .v 48, .v 66, .v 67, .v 68, .v 69, .v 70, .v 71, .v 72, .v 73, .v 74, .v 75, .v 76, .v 77, .v 78, .v 79, .v 80, .v 81] = true := by kernel_rfl
    rw [hb] at hk
    refine ⟨.normal, _, RoundEnd.of (e := none) hk fun ρ hρ hd => ?_, .inl ⟨rfl, pw_after hn i3 fA dN hstep.symm rfl⟩⟩
    have hρ : ∀ i, i < 65 → ρ i = ρT i := hρ
    have r0 : ρ 0 = (n : Int) := by rw [hρ 0 (by decide), hn]
    have sm : seg ρ 1 48 = seg ρ0 1 48 := (seg_congr fun i hi => hρ _ (by omega)).trans i1
    obtain ⟨sa, sn⟩ := split48 sm
    have so : seg ρ 49 16 = O := (seg_congr fun i hi => hρ _ (by omega)).trans i4
    simp only [D_nil, D_add, D_sub, D_mul, D_and, D_or, D_xor, D_shl, D_shr, D_andNot, D_quo, D_rem, D_add_i64, D_sub_i64, D_mul_i64, D_add_u32, D_sub_u32, D_mul_u32, D_add_u8, D_sub_u8, D_mul_u8, D_eql, D_neq, D_lss, D_leq, D_gtr, D_geq, D_not, D_conv, D_eqs, D_call, D_cond, D_need, D_idx, D_sel, D_upd, D_shv, D_beq, List.map_cons, List.map_nil, Ref.den, r0] at hd
    obtain ⟨h65, h66, h82, h83, h84, h85, h86, h87, h88, h89, -⟩ := hd
    have e82 : ρ 82 = (n : Int) / 8 := i_quo 8 (by decide) (by omega) (by omega) rfl h82
    have e84 : ρ 84 = (n : Int) % 8 := i_rem 8 (by decide) (by omega) rfl h84
    have e85 : ρ 85 = ρ 84 := by rw [h85, c_u64]; omega
    have e83 : ρ 83 = (seg ρ0 17 32).getD (n / 8) 0 := by
      have h : ρ 83 = (seg ρ 17 32).getD (ρ 82).toNat 0 := h83
      rw [h, sn, e82, show ((n : Int) / 8).toNat = n / 8 by omega]
    have e86 := shv_r (n % 8) (by show n % 8 ≤ 8; omega) h86 (by rw [e85, e84]; omega)
    have e87 := k_and 1 (by decide) rfl h87
    rw [show (2 : Int) ^ 1 = 2 by decide] at e87
    have hbit := bit_of (w := 8) (l := seg ρ0 17 32) (i := n / 8) (r := n % 8) (by rw [eight]; exact dN) (by rw [seg_len]; omega) (by omega)
    rw [eight, show 8 * (n / 8) + n % 8 = n by omega] at hbit
    have e87' : ρ 87 = dv 256 (seg ρ0 17 32) / 2 ^ n % 2 := by rw [e87, e86, e83, hbit]
    have k65 := bit_true h65 (decide_eq_true (show (0 : Int) ≤ n by omega))
    have s66 : seg ρ 66 16 = mulF O O := by
      have := seg_of (ρ := ρ) (n := 66) (g := mulF (seg ρ 49 16) (seg ρ 49 16)) h66 (by rw [so]; exact (mulF_ff fO fO).len)
      rw [so] at this; exact this
    have k88 := bit_false h88 (decide_eq_false fun q => hbt (e87'.symm.trans q))
    refine ⟨?_, fun i hi => ?_⟩
    · simp only [G_nil, G_bin, G_cmp, G_not, G_conv, G_eqs, G_call, G_cond, G_need, G_idx, G_sel, G_upd, G_shv, G_beq, List.map_cons, List.map_nil, Ref.den, r0]
      refine ⟨k65, ?_, ⟨?_, ?_⟩, ⟨?_, ?_⟩, k88, trivial⟩
      · show FF (seg ρ 49 16) ∧ FF (seg ρ 49 16); rw [so]; exact ⟨fO, fO⟩
      · omega
      · omega
      · omega
      · omega
    · show ([ρ 89] ++ (seg ρ 1 48 ++ seg ρ 66 16)).getD i 0 = _
      rw [s66, sm, show ρ 89 = ρT 0 - 1 by rw [h89, IntKind.wrap_i64]; omega]
theorem pw_end {cl : Code} (hb : loopAt 0 pwB = some cl) {ρ0 ρT : Nat → Int} (hI : pwI ρ0 ρT) (hlt : ¬ 0 ≤ ρT 0) :
    ∃ e x', RoundEnd Try.prog sfns (callN Try.prog GT2 300 5) 300 cl pwT.slT pwT.memT pwT.m ρT e x' ∧ ((e = .normal ∧ pwI ρ0 x' ∧ (x' 0 + 1).toNat < (ρT 0 + 1).toNat) ∨ (e = .exit pwT.xid ∧ ∀ i, i < pwT.m → x' i = (sfns.g pwT.j [xs pwT.m ρ0]).getD i 0)) := by
  obtain ⟨i1, i2, i3, fA, dN, i4⟩ := hI
  have hk : roundB Try.prog GT2 300 5 (loopAt 0 pwB) pwT [false] (some 0) [.cmp 65 .geq (.v 0) (.l 0), .cond 65 false] [.v 0, .v 1, .v 2, .v 3, .v 4, .v 5, .v 6, .v 7, .v 8, .v 9, .v 10, .v 11, .v 12, .v 13, .v 14, .v 15, .v 16, .v 17, .v 18, .v 19, .v 20, .v 21, .v 22, .v 23, .v 24, .v 25, .v 26, .v 27, .v 28, .v 29, .v 30, .v 31, .v 32, .v 33, .v 34, .v 35, .v 36, .v 37, .v 38, .v 39, .v 40, .v 41, .v 42, .v 43, .v 44, .v 45, .v 46, .v 47, .v 48, .v 49, .v 50, .v 51, .v 52, .v 53, .v 54, .v 55, .v 56, .v 57, .v 58, .v 59, .v 60, .v 61, .v 62, .v 63, .v 64] = true := by kernel_rfl
  rw [hb] at hk
  refine ⟨.exit 0, ρT, RoundEnd.of (e := some 0) hk fun ρ hρ hd => ?_, .inr ⟨rfl, fun i hi => ?_⟩⟩
  · have r0 : ρ 0 = ρT 0 := hρ 0 (by decide)
    simp only [D_nil, D_add, D_sub, D_mul, D_and, D_or, D_xor, D_shl, D_shr, D_andNot, D_quo, D_rem, D_add_i64, D_sub_i64, D_mul_i64, D_add_u32, D_sub_u32, D_mul_u32, D_add_u8, D_sub_u8, D_mul_u8, D_eql, D_neq, D_lss, D_leq, D_gtr, D_geq, D_not, D_conv, D_eqs, D_call, D_cond, D_need, D_idx, D_sel, D_upd, D_shv, D_beq, List.map_cons, List.map_nil, Ref.den, r0] at hd
    obtain ⟨h65, -⟩ := hd
    have k65 := bit_false h65 (decide_eq_false hlt)
    refine ⟨by simp only [G_nil, G_bin, G_cmp, G_not, G_conv, G_eqs, G_call, G_cond, G_need, G_idx, G_sel, G_upd, G_shv, G_beq, List.map_cons, List.map_nil, Ref.den]; exact ⟨k65, trivial⟩, fun i hi => ?_⟩
    show ([ρ 0] ++ (seg ρ 1 48 ++ seg ρ 49 16)).getD i 0 = _
    rw [← pw_get ρ hi, hρ i hi]
  · have hi : i < 65 := hi
    have e1 : ρT 0 = -1 := by omega
    show ρT i = (powL (xs 65 ρ0)).getD i 0
    unfold powL
    rw [xs_drop (by omega), xs_drop (by omega), xs_drop (by omega), pw_get ρT hi, e1, i1, i4, e1]
    rfl
theorem okFPow : CtrOK Try.prog sfns cFPow := by
  refine CtrOK.ofL (t := pwT) (k := 0) (fn := Try.f102) (body := pwB) okGT2 mixed (lf := 300) (d := 5) (by kernel_rfl) (by kernel_rfl) ?_ rfl fun w vs xs ha hp => ?_
  · intro cl hcl
    refine ⟨pwI, fun ρ => (ρ 0 + 1).toNat, fun ρ0 hT hp => ?_, fun ρ0 ρT hT hI => ?_⟩
    · have hp : powP' (Go.Sx.xs 65 ρ0) := hp
      unfold powP' at hp
      rw [xs_get (by omega), xs_drop (by omega), xs_drop (by omega)] at hp
      obtain ⟨p1, p2, p3⟩ := hp
      exact ⟨rfl, by omega, by omega, p3, pw_dig hT, by rw [p1, p2]; rfl⟩
    · by_cases h : 0 ≤ ρT 0
      · exact pw_go hcl hI h
      · exact pw_end hcl hI h
  · obtain ⟨v, u, a, b, rfl, rfl, ⟨la, -, ia⟩, ⟨lb, -, ib⟩⟩ := open2 ha
    have fA : FF a := hp
    refine WayL.of (dec := []) (fs := [.need 62 [[.l 255, .v 0, .v 1, .v 2, .v 3, .v 4, .v 5, .v 6, .v 7, .v 8, .v 9, .v 10, .v 11, .v 12, .v 13, .v 14, .v 15, .v 16, .v 17, .v 18, .v 19, .v 20, .v 21, .v 22, .v 23, .v 24, .v 25, .v 26, .v 27, .v 28, .v 29, .v 30, .v 31, .v 32, .v 33, .v 34, .v 35, .v 36, .v 37, .v 38, .v 39, .v 40, .v 41, .v 42, .v 43, .v 44, .v 45, .v 46, .v 47, .l 1, .l 0, .l 0, .l 0, .l 0, .l 0, .l 0, .l 0, .l 0, .l 0, .l 0, .l 0, .l 0, .l 0, .l 0, .l 0]], .call 48 62 [[.l 255, .v 0, .v 1, .v 2, .v 3, .v 4, .v 5, .v 6, .v 7, .v 8, .v 9, .v 10, .v 11, .v 12, .v 13, .v 14, .v 15, .v 16, .v 17, .v 18, .v 19, .v 20, .v 21, .v 22, .v 23, .v 24, .v 25, .v 26, .v 27, .v 28, .v 29, .v 30, .v 31, .v 32, .v 33, .v 34, .v 35, .v 36, .v 37, .v 38, .v 39, .v 40, .v 41, .v 42, .v 43, .v 44, .v 45, .v 46, .v 47, .l 1, .l 0, .l 0, .l 0, .l 0, .l 0, .l 0, .l 0, .l 0, .l 0, .l 0, .l 0, .l 0, .l 0, .l 0, .l 0]] 65]) (refs := [.v 97, .v 98, .v 99, .v 100, .v 101, .v 102, .v 103, .v 104, .v 105, .v 106, .v 107, .v 108, .v 109, .v 110, .v 111, .v 112]) (by kernel_rfl) fun ρ hρ hd => ?_
    have ea : seg ρ 0 16 = a := seg_of (fun i hi => by
      rw [Nat.zero_add, hρ i (by show i < 48; omega)]
      simp only [flat, List.flatten_cons, List.flatten_nil, List.append_nil, List.getD_eq_getElem?_getD]
      rw [List.getElem?_append_left (by omega)]) la
    have eb : seg ρ 16 32 = b := seg_of (fun i hi => by
      rw [hρ (16 + i) (by show 16 + i < 48; omega)]
      simp only [flat, List.flatten_cons, List.flatten_nil, List.append_nil, List.getD_eq_getElem?_getD]
      rw [List.getElem?_append_right (by omega), la, Nat.add_sub_cancel_left]) lb
    simp only [D_nil, D_add, D_sub, D_mul, D_and, D_or, D_xor, D_shl, D_shr, D_andNot, D_quo, D_rem, D_add_i64, D_sub_i64, D_mul_i64, D_add_u32, D_sub_u32, D_mul_u32, D_add_u8, D_sub_u8, D_mul_u8, D_eql, D_neq, D_lss, D_leq, D_gtr, D_geq, D_not, D_conv, D_eqs, D_call, D_cond, D_need, D_idx, D_sel, D_upd, D_shv, D_beq, List.map_cons, List.map_nil, Ref.den] at hd
    obtain ⟨h48, -⟩ := hd
    have s48 : ∀ i, i < 65 → ρ (48 + i) = ([-1] ++ ((seg ρ 0 16 ++ seg ρ 16 32) ++ powF (seg ρ 0 16) (dv 256 (seg ρ 16 32)) 256)).getD i 0 := fun i hi => h48 i hi
    rw [ea, eb] at s48
    refine ⟨?_, ?_⟩
    · simp only [G_nil, G_bin, G_cmp, G_not, G_conv, G_eqs, G_call, G_cond, G_need, G_idx, G_sel, G_upd, G_shv, G_beq, List.map_cons, List.map_nil, Ref.den]
      refine ⟨⟨rfl, rfl, ?_⟩, trivial⟩
      show FF (seg ρ 0 16); rw [ea]; exact fA
    · show seg ρ 97 16 = powF a (dv 256 b) 256
      have l2 : (a ++ b).length = 48 := by rw [List.length_append]; omega
      have := seg_end [-1] (a ++ b) (powF a (dv 256 b) 256)
      rw [l2, powF_len fA] at this
      rw [← this]
      exact seg_congr fun i hi => by rw [show 97 + i = 48 + (49 + i) by omega]; exact s48 _ (by omega)
end Go.Proofs.Ytfobnajgnnccmaa
end
section
namespace Go.Bx
theorem ff_mod_lt (x : Int) : 0 ≤ x % PP ∧ x % PP < WW := by
  have h0 := Int.emod_nonneg x (b := PP) (by decide)
  have h1 := Int.emod_lt_of_pos x PP_lt.1
  have := PP_lt
  omega
theorem dgW {x y : Int} (hx : 0 ≤ x ∧ x < WW) (hy : 0 ≤ y ∧ y < WW) : dg 256 32 x = dg 256 32 y ↔ x = y := by
  have hW : WW = 256 ^ 32 := by decide +kernel
  refine ⟨fun h => ?_, fun h => by rw [h]⟩
  have := congrArg (dv 256) h
  rwa [dv_dg_of (by decide) hx.1 (by omega), dv_dg_of (by decide) hy.1 (by omega)] at this
theorem p2_dv : dv 256 [235, 255, 255, 255, 255, 255, 255, 255, 255, 255, 255, 255, 255, 255, 255, 255, 255, 255, 255, 255, 255, 255, 255, 255, 255, 255, 255, 255, 255, 255, 255, 127] = PP - 2 := by decide +kernel
theorem e8_dv : dv 256 [254, 255, 255, 255, 255, 255, 255, 255, 255, 255, 255, 255, 255, 255, 255, 255, 255, 255, 255, 255, 255, 255, 255, 255, 255, 255, 255, 255, 255, 255, 255, 15] = E8 := by decide +kernel
theorem e4_dv : dv 256 [251, 255, 255, 255, 255, 255, 255, 255, 255, 255, 255, 255, 255, 255, 255, 255, 255, 255, 255, 255, 255, 255, 255, 255, 255, 255, 255, 255, 255, 255, 255, 31] = E4 := by decide +kernel
def twoF : List Int := [2, 0, 0, 0, 0, 0, 0, 0, 0, 0, 0, 0, 0, 0, 0, 0]
theorem twoF_ff : FF twoF := dig_ff rfl (by intro z hz; simp only [twoF, List.mem_cons, List.not_mem_nil, or_false] at hz; omega)
theorem twoF_dv : dv 65536 twoF = 2 := by decide +kernel
end Go.Bx
namespace Go.Proofs.Ytfobnajgnnccmaa
open Go.RowKit Go.Bx Go.Sx
set_option linter.unusedSimpArgs false
set_option maxRecDepth 100000
def cFInv : Ctr := ⟨76, 57, [.arr .i64 16], [.arr .i64 16]⟩
def cFRoot : Ctr := ⟨78, 58, [.arr .i64 16], [.arr .u8 32, .bool]⟩
def GT3 : List Ctr := [cFPow, cFPlus, cFMinus, cFTimes, cIn, cOut]
theorem okGT3 (hOut : CtrOK Try.prog sfns cOut) : ∀ c ∈ GT3, CtrOK Try.prog sfns c := by
  intro c hc
  simp only [GT3, List.mem_cons, List.not_mem_nil, or_false] at hc
  rcases hc with rfl | rfl | rfl | rfl | rfl | rfl
  · exact okFPow
  · exact okFPlus
  · exact okFMinus
  · exact okFTimes
  · exact okIn
  · exact hOut
theorem okFInv (hOut : CtrOK Try.prog sfns cOut) : CtrOK Try.prog sfns cFInv := by
  refine CtrOK.of (okGT3 hOut) mixed (lf := 300) (d := 5) rfl fun w vs xs ha hp => ?_
  obtain ⟨v, a, rfl, rfl, ⟨la, -, ia⟩⟩ := open1 ha
  have fA : FF a := hp
  refine Go.Sx.Way.of (dec := []) (fs := [.need 56 [[.v 0, .v 1, .v 2, .v 3, .v 4, .v 5, .v 6, .v 7, .v 8, .v 9, .v 10, .v 11, .v 12, .v 13, .v 14, .v 15], [.l 235, .l 255, .l 255, .l 255, .l 255, .l 255, .l 255, .l 255, .l 255, .l 255, .l 255, .l 255, .l 255, .l 255, .l 255, .l 255, .l 255, .l 255, .l 255, .l 255, .l 255, .l 255, .l 255, .l 255, .l 255, .l 255, .l 255, .l 255, .l 255, .l 255, .l 255, .l 127]], .call 16 56 [[.v 0, .v 1, .v 2, .v 3, .v 4, .v 5, .v 6, .v 7, .v 8, .v 9, .v 10, .v 11, .v 12, .v 13, .v 14, .v 15], [.l 235, .l 255, .l 255, .l 255, .l 255, .l 255, .l 255, .l 255, .l 255, .l 255, .l 255, .l 255, .l 255, .l 255, .l 255, .l 255, .l 255, .l 255, .l 255, .l 255, .l 255, .l 255, .l 255, .l 255, .l 255, .l 255, .l 255, .l 255, .l 255, .l 255, .l 255, .l 127]] 16]) (refs := [.v 16, .v 17, .v 18, .v 19, .v 20, .v 21, .v 22, .v 23, .v 24, .v 25, .v 26, .v 27, .v 28, .v 29, .v 30, .v 31]) (by kernel_rfl) fun ρ hρ hd => ?_
  have ea : seg ρ 0 16 = a := seg_of (fun i hi => by rw [Nat.zero_add, hρ i hi]; simp only [flat, List.flatten_cons, List.flatten_nil, List.append_nil]) la
  simp only [D_nil, D_add, D_sub, D_mul, D_and, D_or, D_xor, D_shl, D_shr, D_andNot, D_quo, D_rem, D_add_i64, D_sub_i64, D_mul_i64, D_add_u32, D_sub_u32, D_mul_u32, D_add_u8, D_sub_u8, D_mul_u8, D_eql, D_neq, D_lss, D_leq, D_gtr, D_geq, D_not, D_conv, D_eqs, D_call, D_cond, D_need, D_idx, D_sel, D_upd, D_shv, D_beq, List.map_cons, List.map_nil, Ref.den] at hd
  obtain ⟨h16, -⟩ := hd
  have s16 : seg ρ 16 16 = powF (seg ρ 0 16) (dv 256 [235, 255, 255, 255, 255, 255, 255, 255, 255, 255, 255, 255, 255, 255, 255, 255, 255, 255, 255, 255, 255, 255, 255, 255, 255, 255, 255, 255, 255, 255, 255, 127]) 256 := seg_of h16 (by rw [ea]; exact powF_len fA _ _)
  rw [ea, p2_dv] at s16
  refine ⟨?_, s16⟩
  simp only [G_nil, G_bin, G_cmp, G_not, G_conv, G_eqs, G_call, G_cond, G_need, G_idx, G_sel, G_upd, G_shv, G_beq, List.map_cons, List.map_nil, Ref.den]
  refine ⟨?_, trivial⟩
  show FF (seg ρ 0 16); rw [ea]; exact fA
theorem sg58 (a : List Int) : sfns.g 58 [a] = (if timesZ (rootT (dv 65536 a)) (rootT (dv 65536 a)) % PP = dv 65536 a % PP then dg 256 32 (rootT (dv 65536 a) % PP) ++ [1] else dg 256 32 0 ++ [0]) := by simp only [sfns, sg, sgR]
theorem okFRoot (hOut : CtrOK Try.prog sfns cOut) : CtrOK Try.prog sfns cFRoot := by
  refine CtrOK.of (okGT3 hOut) mixed (lf := 300) (d := 5) rfl fun w vs xs ha hp => ?_
  obtain ⟨v, a, rfl, rfl, ⟨la, -, ia⟩⟩ := open1 ha
  have fA : FF a := hp
  obtain ⟨A, hA⟩ : ∃ A, A = dv 65536 a := ⟨_, rfl⟩
  obtain ⟨R, hR⟩ : ∃ R, R = powF a E8 256 := ⟨_, rfl⟩
  have fR : FF R := by rw [hR]; exact powF_ff fA _ _
  obtain ⟨R', hR'⟩ : ∃ R', R' = powZ A E8 256 := ⟨_, rfl⟩
  have mR : dv 65536 R % PP = R' % PP := by rw [hR, hR']; exact powF_mod fA (by rw [hA]) E8 256
  obtain ⟨M, hM⟩ : ∃ M, M = powF twoF E4 256 := ⟨_, rfl⟩
  have fM : FF M := by rw [hM]; exact powF_ff twoF_ff _ _
  have mM : dv 65536 M % PP = moZ % PP := by rw [hM, moZ]; exact powF_mod twoF_ff (by rw [twoF_dv]) E4 256
  have fX : FF (mulF R M) := mulF_ff fR fM
  have mX : dv 65536 (mulF R M) % PP = timesZ R' moZ % PP := by rw [mulF_mod fR fM, timesZ_mod]; exact mul_congP mR mM
  have mRR : dv 65536 (mulF R R) % PP = timesZ R' R' % PP := by rw [mulF_mod fR fR, timesZ_mod]; exact mul_congP mR mR
  have mXX : dv 65536 (mulF (mulF R M) (mulF R M)) % PP = timesZ (timesZ R' moZ) (timesZ R' moZ) % PP := by rw [mulF_mod fX fX, timesZ_mod]; exact mul_congP mX mX
  have hg : sfns.g cFRoot.j [a] = (if timesZ (rootT A) (rootT A) % PP = A % PP then dg 256 32 (rootT A % PP) ++ [1] else dg 256 32 0 ++ [0]) := by rw [hA]; exact sg58 a
  rw [hg]
  by_cases c1 : timesZ R' R' % PP = A % PP
  · have eT : rootT A = R' := by rw [rootT, ← hR', if_pos c1]
    rw [eT, if_pos c1]
    refine Go.Sx.Way.of (dec := [true]) (fs := [.need 52 [[.v 0, .v 1, .v 2, .v 3, .v 4, .v 5, .v 6, .v 7, .v 8, .v 9, .v 10, .v 11, .v 12, .v 13, .v 14, .v 15]], .call 16 52 [[.v 0, .v 1, .v 2, .v 3, .v 4, .v 5, .v 6, .v 7, .v 8, .v 9, .v 10, .v 11, .v 12, .v 13, .v 14, .v 15]] 32, .need 56 [[.v 0, .v 1, .v 2, .v 3, .v 4, .v 5, .v 6, .v 7, .v 8, .v 9, .v 10, .v 11, .v 12, .v 13, .v 14, .v 15], [.l 254, .l 255, .l 255, .l 255, .l 255, .l 255, .l 255, .l 255, .l 255, .l 255, .l 255, .l 255, .l 255, .l 255, .l 255, .l 255, .l 255, .l 255, .l 255, .l 255, .l 255, .l 255, .l 255, .l 255, .l 255, .l 255, .l 255, .l 255, .l 255, .l 255, .l 255, .l 15]], .call 48 56 [[.v 0, .v 1, .v 2, .v 3, .v 4, .v 5, .v 6, .v 7, .v 8, .v 9, .v 10, .v 11, .v 12, .v 13, .v 14, .v 15], [.l 254, .l 255, .l 255, .l 255, .l 255, .l 255, .l 255, .l 255, .l 255, .l 255, .l 255, .l 255, .l 255, .l 255, .l 255, .l 255, .l 255, .l 255, .l 255, .l 255, .l 255, .l 255, .l 255, .l 255, .l 255, .l 255, .l 255, .l 255, .l 255, .l 255, .l 255, .l 15]] 16, .need 55 [[.v 48, .v 49, .v 50, .v 51, .v 52, .v 53, .v 54, .v 55, .v 56, .v 57, .v 58, .v 59, .v 60, .v 61, .v 62, .v 63], [.v 48, .v 49, .v 50, .v 51, .v 52, .v 53, .v 54, .v 55, .v 56, .v 57, .v 58, .v 59, .v 60, .v 61, .v 62, .v 63]], .call 64 55 [[.v 48, .v 49, .v 50, .v 51, .v 52, .v 53, .v 54, .v 55, .v 56, .v 57, .v 58, .v 59, .v 60, .v 61, .v 62, .v 63], [.v 48, .v 49, .v 50, .v 51, .v 52, .v 53, .v 54, .v 55, .v 56, .v 57, .v 58, .v 59, .v 60, .v 61, .v 62, .v 63]] 16, .need 52 [[.v 64, .v 65, .v 66, .v 67, .v 68, .v 69, .v 70, .v 71, .v 72, .v 73, .v 74, .v 75, .v 76, .v 77, .v 78, .v 79]], .call 80 52 [[.v 64, .v 65, .v 66, .v 67, .v 68, .v 69, .v 70, .v 71, .v 72, .v 73, .v 74, .v 75, .v 76, .v 77, .v 78, .v 79]] 32, .eqs 112 [(.v 80, .v 16), (.v 81, .v 17), (.v 82, .v 18), (.v 83, .v 19), (.v 84, .v 20), (.v 85, .v 21), (.v 86, .v 22), (.v 87, .v 23), (.v 88, .v 24), (.v 89, .v 25), (.v 90, .v 26), (.v 91, .v 27), (.v 92, .v 28), (.v 93, .v 29), (.v 94, .v 30), (.v 95, .v 31), (.v 96, .v 32), (.v 97, .v 33), (.v 98, .v 34), (.v 99, .v 35), (.v 100, .v 36), (.v 101, .v 37), (.v 102, .v 38), (.v 103, .v 39), (.v 104, .v 40), (.v 105, .v 41), (.v 106, .v 42), (.v 107, .v 43), (.v 108, .v 44), (.v 109, .v 45), (.v 110, .v 46), (.v 111, .v 47)], .cond 112 true, .need 52 [[.v 48, .v 49, .v 50, .v 51, .v 52, .v 53, .v 54, .v 55, .v 56, .v 57, .v 58, .v 59, .v 60, .v 61, .v 62, .v 63]], .call 113 52 [[.v 48, .v 49, .v 50, .v 51, .v 52, .v 53, .v 54, .v 55, .v 56, .v 57, .v 58, .v 59, .v 60, .v 61, .v 62, .v 63]] 32]) (refs := [.v 113, .v 114, .v 115, .v 116, .v 117, .v 118, .v 119, .v 120, .v 121, .v 122, .v 123, .v 124, .v 125, .v 126, .v 127, .v 128, .v 129, .v 130, .v 131, .v 132, .v 133, .v 134, .v 135, .v 136, .v 137, .v 138, .v 139, .v 140, .v 141, .v 142, .v 143, .v 144, .l 1]) (by kernel_rfl) fun ρ hρ hd => ?_
    have ea : seg ρ 0 16 = a := seg_of (fun i hi => by rw [Nat.zero_add, hρ i hi]; simp only [flat, List.flatten_cons, List.flatten_nil, List.append_nil]) la
    simp only [D_nil, D_add, D_sub, D_mul, D_and, D_or, D_xor, D_shl, D_shr, D_andNot, D_quo, D_rem, D_add_i64, D_sub_i64, D_mul_i64, D_add_u32, D_sub_u32, D_mul_u32, D_add_u8, D_sub_u8, D_mul_u8, D_eql, D_neq, D_lss, D_leq, D_gtr, D_geq, D_not, D_conv, D_eqs, D_call, D_cond, D_need, D_idx, D_sel, D_upd, D_shv, D_beq, List.map_cons, List.map_nil, Ref.den] at hd
    obtain ⟨h16, h48, h64, h80, h112, h113, -⟩ := hd
    have s16 : seg ρ 16 32 = dg 256 32 (dv 65536 (seg ρ 0 16) % PP) := seg_of h16 (dg_len _ _ _)
    rw [ea, ← hA] at s16
    have s48 : seg ρ 48 16 = powF (seg ρ 0 16) (dv 256 [254, 255, 255, 255, 255, 255, 255, 255, 255, 255, 255, 255, 255, 255, 255, 255, 255, 255, 255, 255, 255, 255, 255, 255, 255, 255, 255, 255, 255, 255, 255, 15]) 256 := seg_of h48 (by rw [ea]; exact powF_len fA _ _)
    rw [ea, e8_dv, ← hR] at s48
    have s64 : seg ρ 64 16 = mulF (seg ρ 48 16) (seg ρ 48 16) := seg_of h64 (by rw [s48]; exact (mulF_ff fR fR).len)
    rw [s48] at s64
    have s80 : seg ρ 80 32 = dg 256 32 (dv 65536 (seg ρ 64 16) % PP) := seg_of h80 (dg_len _ _ _)
    rw [s64, mRR] at s80
    have q112 : ρ 112 = b2i (decide (seg ρ 80 32 = seg ρ 16 32)) := h112.trans (congrArg b2i eqs_lists)
    rw [s80, s16] at q112
    have q112 : ρ 112 = b2i (decide (timesZ R' R' % PP = A % PP)) := q112.trans (b2i_congr (dgW (ff_mod_lt _) (ff_mod_lt _)))
    have n0 : FF (seg ρ 0 16) := by rw [ea]; exact fA
    have n48 : FF (seg ρ 48 16) ∧ FF (seg ρ 48 16) := by rw [s48]; exact ⟨fR, fR⟩
    have n64 : FF (seg ρ 64 16) := by rw [s64]; exact mulF_ff fR fR
    have k112 := bit_true q112 (decide_eq_true c1)
    have s113 : seg ρ 113 32 = dg 256 32 (dv 65536 (seg ρ 48 16) % PP) := seg_of h113 (dg_len _ _ _)
    rw [s48, mR] at s113
    refine ⟨?_, ?_⟩
    · simp only [G_nil, G_bin, G_cmp, G_not, G_conv, G_eqs, G_call, G_cond, G_need, G_idx, G_sel, G_upd, G_shv, G_beq, List.map_cons, List.map_nil, Ref.den]
      exact ⟨n0, n0, n48, n64, k112, by show FF (seg ρ 48 16); rw [s48]; exact fR, trivial⟩
    · show seg ρ 113 32 ++ [1] = _
      rw [s113]
  · have eT : rootT A = timesZ R' moZ := by rw [rootT, ← hR', if_neg c1]
    rw [eT]
    by_cases c2 : timesZ (timesZ R' moZ) (timesZ R' moZ) % PP = A % PP
    · rw [if_pos c2]
      refine Go.Sx.Way.of (dec := [false,true]) (fs := [.need 52 [[.v 0, .v 1, .v 2, .v 3, .v 4, .v 5, .v 6, .v 7, .v 8, .v 9, .v 10, .v 11, .v 12, .v 13, .v 14, .v 15]], .call 16 52 [[.v 0, .v 1, .v 2, .v 3, .v 4, .v 5, .v 6, .v 7, .v 8, .v 9, .v 10, .v 11, .v 12, .v 13, .v 14, .v 15]] 32, .need 56 [[.v 0, .v 1, .v 2, .v 3, .v 4, .v 5, .v 6, .v 7, .v 8, .v 9, .v 10, .v 11, .v 12, .v 13, .v 14, .v 15], [.l 254, .l 255, .l 255, .l 255, .l 255, .l 255, .l 255, .l 255, .l 255, .l 255, .l 255, .l 255, .l 255, .l 255, .l 255, .l 255, .l 255, .l 255, .l 255, .l 255, .l 255, .l 255, .l 255, .l 255, .l 255, .l 255, .l 255, .l 255, .l 255, .l 255, .l 255, .l 15]], .call 48 56 [[.v 0, .v 1, .v 2, .v 3, .v 4, .v 5, .v 6, .v 7, .v 8, .v 9, .v 10, .v 11, .v 12, .v 13, .v 14, .v 15], [.l 254, .l 255, .l 255, .l 255, .l 255, .l 255, .l 255, .l 255, .l 255, .l 255, .l 255, .l 255, .l 255, .l 255, .l 255, .l 255, .l 255, .l 255, .l 255, .l 255, .l 255, .l 255, .l 255, .l 255, .l 255, .l 255, .l 255, .l 255, .l 255, .l 255, .l 255, .l 15]] 16, .need 55 [[.v 48, .v 49, .v 50, .v 51, .v 52, .v 53, .v 54, .v 55, .v 56, .v 57, .v 58, .v 59, .v 60, .v 61, .v 62, .v 63], [.v 48, .v 49, .v 50, .v 51, .v 52, .v 53, .v 54, .v 55, .v 56, .v 57, .v 58, .v 59, .v 60, .v 61, .v 62, .v 63]], .call 64 55 [[.v 48, .v 49, .v 50, .v 51, .v 52, .v 53, .v 54, .v 55, .v 56, .v 57, .v 58, .v 59, .v 60, .v 61, .v 62, .v 63], [.v 48, .v 49, .v 50, .v 51, .v 52, .v 53, .v 54, .v 55, .v 56, .v 57, .v 58, .v 59, .v 60, .v 61, .v 62, .v 63]] 16, .need 52 [[.v 64, .v 65, .v 66, .v 67, .v 68, .v 69, .v 70, .v 71, .v 72, .v 73, .v 74, .v 75, .v 76, .v 77, .v 78, .v 79]], .call 80 52 [[.v 64, .v 65, .v 66, .v 67, .v 68, .v 69, .v 70, .v 71, .v 72, .v 73, .v 74, .v 75, .v 76, .v 77, .v 78, .v 79]] 32, .eqs 112 [(.v 80, .v 16), (.v 81, .v 17), (.v 82, .v 18), (.v 83, .v 19), (.v 84, .v 20), (.v 85, .v 21), (.v 86, .v 22), (.v 87, .v 23), (.v 88, .v 24), (.v 89, .v 25), (.v 90, .v 26), (.v 91, .v 27), (.v 92, .v 28), (.v 93, .v 29), (.v 94, .v 30), (.v 95, .v 31), (.v 96, .v 32), (.v 97, .v 33), (.v 98, .v 34), (.v 99, .v 35), (.v 100, .v 36), (.v 101, .v 37), (.v 102, .v 38), (.v 103, .v 39), (.v 104, .v 40), (.v 105, .v 41), (.v 106, .v 42), (.v 107, .v 43), (.v 108, .v 44), (.v 109, .v 45), (.v 110, .v 46), (.v 111, .v 47)], .cond 112 false, .need 56 [[.l 2, .l 0, .l 0, .l 0, .l 0, .l 0, .l 0, .l 0, .l 0, .l 0, .l 0, .l 0, .l 0, .l 0, .l 0, .l 0], [.l 251, .l 255, .l 255, .l 255, .l 255, .l 255, .l 255, .l 255, .l 255, .l 255, .l 255, .l 255, .l 255, .l 255, .l 255, .l 255, .l 255, .l 255, .l 255, .l 255, .l 255, .l 255, .l 255, .l 255, .l 255, .l 255, .l 255, .l 255, .l 255, .l 255, .l 255, .l 31]], .call 113 56 [[.l 2, .l 0, .l 0, .l 0, .l 0, .l 0, .l 0, .l 0, .l 0, .l 0, .l 0, .l 0, .l 0, .l 0, .l 0, .l 0], [.l 251, .l 255, .l 255, .l 255, .l 255, .l 255, .l 255, .l 255, .l 255, .l 255, .l 255, .l 255, .l 255, .l 255, .l 255, .l 255, .l 255, .l 255, .l 255, .l 255, .l 255, .l 255, .l 255, .l 255, .l 255, .l 255, .l 255, .l 255, .l 255, .l 255, .l 255, .l 31]] 16, .need 55 [[.v 48, .v 49, .v 50, .v 51, .v 52, .v 53, .v 54, .v 55, .v 56, .v 57, .v 58, .v 59, .v 60, .v 61, .v 62, .v 63], [.v 113, .v 114, .v 115, .v 116, .v 117, .v 118, .v 119, .v 120, .v 121, .v 122, .v 123, .v 124, .v 125, .v 126, .v 127, .v 128]], .call 129 55 [[.v 48, .v 49, .v 50, .v 51, .v 52, .v 53, .v 54, .v 55, .v 56, .v 57, .v 58, .v 59, .v 60, .v 61, .v 62, .v 63], [.v 113, .v 114, .v 115, .v 116, .v 117, .v 118, .v 119, .v 120, .v 121, .v 122, .v 123, .v 124, .v 125, .v 126, .v 127, .v 128]] 16, .need 55 [[.v 129, .v 130, .v 131, .v 132, .v 133, .v 134, .v 135, .v 136, .v 137, .v 138, .v 139, .v 140, .v 141, .v 142, .v 143, .v 144], [.v 129, .v 130, .v 131, .v 132, .v 133, .v 134, .v 135, .v 136, .v 137, .v 138, .v 139, .v 140, .v 141, .v 142, .v 143, .v 144]], .call 145 55 [[.v 129, .v 130, .v 131, .v 132, .v 133, .v 134, .v 135, .v 136, .v 137, .v 138, .v 139, .v 140, .v 141, .v 142, .v 143, .v 144], [.v 129, .v 130, .v 131, .v 132, .v 133, .v 134, .v 135, .v 136, .v 137, .v 138, .v 139, .v 140, .v 141, .v 142, .v 143, .v 144]] 16, .need 52 [[.v 145, .v 146, .v 147, .v 148, .v 149, .v 150, .v 151, .v 152, .v 153, .v 154, .v 155, .v 156, .v 157, .v 158, .v 159, .v 160]], .call 161 52 [[.v 145, .v 146, .v 147, .v 148, .v 149, .v 150, .v 151, .v 152, .v 153, .v 154, .v 155, .v 156, .v 157, .v 158, .v 159, .v 160]] 32, .eqs 193 [(.v 161, .v 16), (.v 162, .v 17), (.v 163, .v 18), (.v 164, .v 19), (.v 165, .v 20), (.v 166, .v 21), (.v 167, .v 22), (.v 168, .v 23), (.v 169, .v 24), (.v 170, .v 25), (.v 171, .v 26), (.v 172, .v 27), (.v 173, .v 28), (.v 174, .v 29), (.v 175, .v 30), (.v 176, .v 31), (.v 177, .v 32), (.v 178, .v 33), (.v 179, .v 34), (.v 180, .v 35), (.v 181, .v 36), (.v 182, .v 37), (.v 183, .v 38), (.v 184, .v 39), (.v 185, .v 40), (.v 186, .v 41), (.v 187, .v 42), (.v 188, .v 43), (.v 189, .v 44), (.v 190, .v 45), (.v 191, .v 46), (.v 192, .v 47)], .cond 193 true, .need 52 [[.v 129, .v 130, .v 131, .v 132, .v 133, .v 134, .v 135, .v 136, .v 137, .v 138, .v 139, .v 140, .v 141, .v 142, .v 143, .v 144]], .call 194 52 [[.v 129, .v 130, .v 131, .v 132, .v 133, .v 134, .v 135, .v 136, .v 137, .v 138, .v 139, .v 140, .v 141, .v 142, .v 143, .v 144]] 32]) (refs := [.v 194, .v 195, .v 196, .v 197, .v 198, .v 199, .v 200, .v 201, .v 202, .v 203, .v 204, .v 205, .v 206, .v 207, .v 208, .v 209, .v 210, .v 211, .v 212, .v 213, .v 214, .v 215, .v 216, .v 217, .v 218, .v 219, .v 220, .v 221, .v 222, .v 223, .v 224, .v 225, .l 1]) (by kernel_rfl) fun ρ hρ hd => ?_
      have ea : seg ρ 0 16 = a := seg_of (fun i hi => by rw [Nat.zero_add, hρ i hi]; simp only [flat, List.flatten_cons, List.flatten_nil, List.append_nil]) la
      simp only [D_nil, D_add, D_sub, D_mul, D_and, D_or, D_xor, D_shl, D_shr, D_andNot, D_quo, D_rem, D_add_i64, D_sub_i64, D_mul_i64, D_add_u32, D_sub_u32, D_mul_u32, D_add_u8, D_sub_u8, D_mul_u8, D_eql, D_neq, D_lss, D_leq, D_gtr, D_geq, D_not, D_conv, D_eqs, D_call, D_cond, D_need, D_idx, D_sel, D_upd, D_shv, D_beq, List.map_cons, List.map_nil, Ref.den] at hd
      obtain ⟨h16, h48, h64, h80, h112, h113, h129, h145, h161, h193, h194, -⟩ := hd
      have s16 : seg ρ 16 32 = dg 256 32 (dv 65536 (seg ρ 0 16) % PP) := seg_of h16 (dg_len _ _ _)
      rw [ea, ← hA] at s16
      have s48 : seg ρ 48 16 = powF (seg ρ 0 16) (dv 256 [254, 255, 255, 255, 255, 255, 255, 255, 255, 255, 255, 255, 255, 255, 255, 255, 255, 255, 255, 255, 255, 255, 255, 255, 255, 255, 255, 255, 255, 255, 255, 15]) 256 := seg_of h48 (by rw [ea]; exact powF_len fA _ _)
      rw [ea, e8_dv, ← hR] at s48
      have s64 : seg ρ 64 16 = mulF (seg ρ 48 16) (seg ρ 48 16) := seg_of h64 (by rw [s48]; exact (mulF_ff fR fR).len)
      rw [s48] at s64
      have s80 : seg ρ 80 32 = dg 256 32 (dv 65536 (seg ρ 64 16) % PP) := seg_of h80 (dg_len _ _ _)
      rw [s64, mRR] at s80
      have q112 : ρ 112 = b2i (decide (seg ρ 80 32 = seg ρ 16 32)) := h112.trans (congrArg b2i eqs_lists)
      rw [s80, s16] at q112
      have q112 : ρ 112 = b2i (decide (timesZ R' R' % PP = A % PP)) := q112.trans (b2i_congr (dgW (ff_mod_lt _) (ff_mod_lt _)))
      have n0 : FF (seg ρ 0 16) := by rw [ea]; exact fA
      have n48 : FF (seg ρ 48 16) ∧ FF (seg ρ 48 16) := by rw [s48]; exact ⟨fR, fR⟩
      have n64 : FF (seg ρ 64 16) := by rw [s64]; exact mulF_ff fR fR
      have k112 := bit_false q112 (decide_eq_false c1)
      have s113 : seg ρ 113 16 = powF twoF (dv 256 [251, 255, 255, 255, 255, 255, 255, 255, 255, 255, 255, 255, 255, 255, 255, 255, 255, 255, 255, 255, 255, 255, 255, 255, 255, 255, 255, 255, 255, 255, 255, 31]) 256 := seg_of h113 (powF_len twoF_ff _ _)
      rw [e4_dv, ← hM] at s113
      have s129 : seg ρ 129 16 = mulF (seg ρ 48 16) (seg ρ 113 16) := seg_of h129 (by rw [s48, s113]; exact fX.len)
      rw [s48, s113] at s129
      have s145 : seg ρ 145 16 = mulF (seg ρ 129 16) (seg ρ 129 16) := seg_of h145 (by rw [s129]; exact (mulF_ff fX fX).len)
      rw [s129] at s145
      have s161 : seg ρ 161 32 = dg 256 32 (dv 65536 (seg ρ 145 16) % PP) := seg_of h161 (dg_len _ _ _)
      rw [s145, mXX] at s161
      have q193 : ρ 193 = b2i (decide (seg ρ 161 32 = seg ρ 16 32)) := h193.trans (congrArg b2i eqs_lists)
      rw [s161, s16] at q193
      have q193 : ρ 193 = b2i (decide (timesZ (timesZ R' moZ) (timesZ R' moZ) % PP = A % PP)) := q193.trans (b2i_congr (dgW (ff_mod_lt _) (ff_mod_lt _)))
      have n113 : FF (seg ρ 48 16) ∧ FF (seg ρ 113 16) := by rw [s48, s113]; exact ⟨fR, fM⟩
      have n129 : FF (seg ρ 129 16) ∧ FF (seg ρ 129 16) := by rw [s129]; exact ⟨fX, fX⟩
      have n145 : FF (seg ρ 145 16) := by rw [s145]; exact mulF_ff fX fX
      have k193 := bit_true q193 (decide_eq_true c2)
      have s194 : seg ρ 194 32 = dg 256 32 (dv 65536 (seg ρ 129 16) % PP) := seg_of h194 (dg_len _ _ _)
      rw [s129, mX] at s194
      refine ⟨?_, ?_⟩
      · simp only [G_nil, G_bin, G_cmp, G_not, G_conv, G_eqs, G_call, G_cond, G_need, G_idx, G_sel, G_upd, G_shv, G_beq, List.map_cons, List.map_nil, Ref.den]
        exact ⟨n0, n0, n48, n64, k112, twoF_ff, n113, n129, n145, k193, by show FF (seg ρ 129 16); rw [s129]; exact fX, trivial⟩
      · show seg ρ 194 32 ++ [1] = _
        rw [s194]
    · rw [if_neg c2]
      refine Go.Sx.Way.of (dec := [false,false]) (fs := [.need 52 [[.v 0, .v 1, .v 2, .v 3, .v 4, .v 5, .v 6, .v 7, .v 8, .v 9, .v 10, .v 11, .v 12, .v 13, .v 14, .v 15]], .call 16 52 [[.v 0, .v 1, .v 2, .v 3, .v 4, .v 5, .v 6, .v 7, .v 8, .v 9, .v 10, .v 11, .v 12, .v 13, .v 14, .v 15]] 32, .need 56 [[.v 0, .v 1, .v 2, .v 3, .v 4, .v 5, .v 6, .v 7, .v 8, .v 9, .v 10, .v 11, .v 12, .v 13, .v 14, .v 15], [.l 254, .l 255, .l 255, .l 255, .l 255, .l 255, .l 255, .l 255, .l 255, .l 255, .l 255, .l 255, .l 255, .l 255, .l 255, .l 255, .l 255, .l 255, .l 255, .l 255, .l 255, .l 255, .l 255, .l 255, .l 255, .l 255, .l 255, .l 255, .l 255, .l 255, .l 255, .l 15]], .call 48 56 [[.v 0, .v 1, .v 2, .v 3, .v 4, .v 5, .v 6, .v 7, .v 8, .v 9, .v 10, .v 11, .v 12, .v 13, .v 14, .v 15], [.l 254, .l 255, .l 255, .l 255, .l 255, .l 255, .l 255, .l 255, .l 255, .l 255, .l 255, .l 255, .l 255, .l 255, .l 255, .l 255, .l 255, .l 255, .l 255, .l 255, .l 255, .l 255, .l 255, .l 255, .l 255, .l 255, .l 255, .l 255, .l 255, .l 255, .l 255, .l 15]] 16, .need 55 [[.v 48, .v 49, .v 50, .v 51, .v 52, .v 53, .v 54, .v 55, .v 56, .v 57, .v 58, .v 59, .v 60, .v 61, .v 62, .v 63], [.v 48, .v 49, .v 50, .v 51, .v 52, .v 53, .v 54, .v 55, .v 56, .v 57, .v 58, .v 59, .v 60, .v 61, .v 62, .v 63]], .call 64 55 [[.v 48, .v 49, .v 50, .v 51, .v 52, .v 53, .v 54, .v 55, .v 56, .v 57, .v 58, .v 59, .v 60, .v 61, .v 62, .v 63], [.v 48, .v 49, .v 50, .v 51, .v 52, .v 53, .v 54, .v 55, .v 56, .v 57, .v 58, .v 59, .v 60, .v 61, .v 62, .v 63]] 16, .need 52 [[.v 64, .v 65, .v 66, .v 67, .v 68, .v 69, .v 70, .v 71, .v 72, .v 73, .v 74, .v 75, .v 76, .v 77, .v 78, .v 79]], .call 80 52 [[.v 64, .v 65, .v 66, .v 67, .v 68, .v 69, .v 70, .v 71, .v 72, .v 73, .v 74, .v 75, .v 76, .v 77, .v 78, .v 79]] 32, .eqs 112 [(.v 80, .v 16), (.v 81, .v 17), (.v 82, .v 18), (.v 83, .v 19), (.v 84, .v 20), (.v 85, .v 21), (.v 86, .v 22), (.v 87, .v 23), (.v 88, .v 24), (.v 89, .v 25), (.v 90, .v 26), (.v 91, .v 27), (.v 92, .v 28), (.v 93, .v 29), (.v 94, .v 30), (.v 95, .v 31), (.v 96, .v 32), (.v 97, .v 33), (.v 98, .v 34), (.v 99, .v 35), (.v 100, .v 36), (.v 101, .v 37), (.v 102, .v 38), (.v 103, .v 39), (.v 104, .v 40), (.v 105, .v 41), (.v 106, .v 42), (.v 107, .v 43), (.v 108, .v 44), (.v 109, .v 45), (.v 110, .v 46), (.v 111, .v 47)], .cond 112 false, .need 56 [[.l 2, .l 0, .l 0, .l 0, .l 0, .l 0, .l 0, .l 0, .l 0, .l 0, .l 0, .l 0, .l 0, .l 0, .l 0, .l 0], [.l 251, .l 255, .l 255, .l 255, .l 255, .l 255, .l 255, .l 255, .l 255, .l 255, .l 255, .l 255, .l 255, .l 255, .l 255, .l 255, .l 255, .l 255, .l 255, .l 255, .l 255, .l 255, .l 255, .l 255, .l 255, .l 255, .l 255, .l 255, .l 255, .l 255, .l 255, .l 31]], .call 113 56 [[.l 2, .l 0, .l 0, .l 0, .l 0, .l 0, .l 0, .l 0, .l 0, .l 0, .l 0, .l 0, .l 0, .l 0, .l 0, .l 0], [.l 251, .l 255, .l 255, .l 255, .l 255, .l 255, .l 255, .l 255, .l 255, .l 255, .l 255, .l 255, .l 255, .l 255, .l 255, .l 255, .l 255, .l 255, .l 255, .l 255, .l 255, .l 255, .l 255, .l 255, .l 255, .l 255, .l 255, .l 255, .l 255, .l 255, .l 255, .l 31]] 16, .need 55 [[.v 48, .v 49, .v 50, .v 51, .v 52, .v 53, .v 54, .v 55, .v 56, .v 57, .v 58, .v 59, .v 60, .v 61, .v 62, .v 63], [.v 113, .v 114, .v 115, .v 116, .v 117, .v 118, .v 119, .v 120, .v 121, .v 122, .v 123, .v 124, .v 125, .v 126, .v 127, .v 128]], .call 129 55 [[.v 48, .v 49, .v 50, .v 51, .v 52, .v 53, .v 54, .v 55, .v 56, .v 57, .v 58, .v 59, .v 60, .v 61, .v 62, .v 63], [.v 113, .v 114, .v 115, .v 116, .v 117, .v 118, .v 119, .v 120, .v 121, .v 122, .v 123, .v 124, .v 125, .v 126, .v 127, .v 128]] 16, .need 55 [[.v 129, .v 130, .v 131, .v 132, .v 133, .v 134, .v 135, .v 136, .v 137, .v 138, .v 139, .v 140, .v 141, .v 142, .v 143, .v 144], [.v 129, .v 130, .v 131, .v 132, .v 133, .v 134, .v 135, .v 136, .v 137, .v 138, .v 139, .v 140, .v 141, .v 142, .v 143, .v 144]], .call 145 55 [[.v 129, .v 130, .v 131, .v 132, .v 133, .v 134, .v 135, .v 136, .v 137, .v 138, .v 139, .v 140, .v 141, .v 142, .v 143, .v 144], [.v 129, .v 130, .v 131, .v 132, .v 133, .v 134, .v 135, .v 136, .v 137, .v 138, .v 139, .v 140, .v 141, .v 142, .v 143, .v 144]] 16, .need 52 [[.v 145, .v 146, .v 147, .v 148, .v 149, .v 150, .v 151, .v 152, .v 153, .v 154, .v 155, .v 156, .v 157, .v 158, .v 159, .v 160]], .call 161 52 [[.v 145, .v 146, .v 147, .v 148, .v 149, .v 150, .v 151, .v 152, .v 153, .v 154, .v 155, .v 156, .v 157, .v 158, .v 159, .v 160]] 32, .eqs 193 [(.v 161, .v 16), (.v 162, .v 17), (.v 163, .v 18), (.v 164, .v 19), (.v 165, .v 20), (.v 166, .v 21), (.v 167, .v 22), (.v 168, .v 23), (.v 169, .v 24), (.v 170, .v 25), (.v 171, .v 26), (.v 172, .v 27), (.v 173, .v 28), (.v 174, .v 29), (.v 175, .v 30), (.v 176, .v 31), (.v 177, .v 32), (.v 178, .v 33), (.v 179, .v 34), (.v 180, .v 35), (.v 181, .v 36), (.v 182, .v 37), (.v 183, .v 38), (.v 184, .v 39), (.v 185, .v 40), (.v 186, .v 41), (.v 187, .v 42), (.v 188, .v 43), (.v 189, .v 44), (.v 190, .v 45), (.v 191, .v 46), (.v 192, .v 47)], .cond 193 false]) (refs := [.l 0, .l 0, .l 0, .l 0, .l 0, .l 0, .l 0, .l 0, .l 0, .l 0, .l 0, .l 0, .l 0, .l 0, .l 0, .l 0, .l 0, .l 0, .l 0, .l 0, .l 0, .l 0, .l 0, .l 0, .l 0, .l 0, .l 0, .l 0, .l 0, .l 0, .l 0, .l 0, .l 0]) (by kernel_rfl) fun ρ hρ hd => ?_
      have ea : seg ρ 0 16 = a := seg_of (fun i hi => by rw [Nat.zero_add, hρ i hi]; simp only [flat, List.flatten_cons, List.flatten_nil, List.append_nil]) la
      simp only [D_nil, D_add, D_sub, D_mul, D_and, D_or, D_xor, D_shl, D_shr, D_andNot, D_quo, D_rem, D_add_i64, D_sub_i64, D_mul_i64, D_add_u32, D_sub_u32, D_mul_u32, D_add_u8, D_sub_u8, D_mul_u8, D_eql, D_neq, D_lss, D_leq, D_gtr, D_geq, D_not, D_conv, D_eqs, D_call, D_cond, D_need, D_idx, D_sel, D_upd, D_shv, D_beq, List.map_cons, List.map_nil, Ref.den] at hd
      obtain ⟨h16, h48, h64, h80, h112, h113, h129, h145, h161, h193, -⟩ := hd
      have s16 : seg ρ 16 32 = dg 256 32 (dv 65536 (seg ρ 0 16) % PP) := seg_of h16 (dg_len _ _ _)
      rw [ea, ← hA] at s16
      have s48 : seg ρ 48 16 = powF (seg ρ 0 16) (dv 256 [254, 255, 255, 255, 255, 255, 255, 255, 255, 255, 255, 255, 255, 255, 255, 255, 255, 255, 255, 255, 255, 255, 255, 255, 255, 255, 255, 255, 255, 255, 255, 15]) 256 := seg_of h48 (by rw [ea]; exact powF_len fA _ _)
      rw [ea, e8_dv, ← hR] at s48
      have s64 : seg ρ 64 16 = mulF (seg ρ 48 16) (seg ρ 48 16) := seg_of h64 (by rw [s48]; exact (mulF_ff fR fR).len)
      rw [s48] at s64
      have s80 : seg ρ 80 32 = dg 256 32 (dv 65536 (seg ρ 64 16) % PP) := seg_of h80 (dg_len _ _ _)
      rw [s64, mRR] at s80
      have q112 : ρ 112 = b2i (decide (seg ρ 80 32 = seg ρ 16 32)) := h112.trans (congrArg b2i eqs_lists)
      rw [s80, s16] at q112
      have q112 : ρ 112 = b2i (decide (timesZ R' R' % PP = A % PP)) := q112.trans (b2i_congr (dgW (ff_mod_lt _) (ff_mod_lt _)))
      have n0 : FF (seg ρ 0 16) := by rw [ea]; exact fA
      have n48 : FF (seg ρ 48 16) ∧ FF (seg ρ 48 16) := by rw [s48]; exact ⟨fR, fR⟩
      have n64 : FF (seg ρ 64 16) := by rw [s64]; exact mulF_ff fR fR
      have k112 := bit_false q112 (decide_eq_false c1)
      have s113 : seg ρ 113 16 = powF twoF (dv 256 [251, 255, 255, 255, 255, 255, 255, 255, 255, 255, 255, 255, 255, 255, 255, 255, 255, 255, 255, 255, 255, 255, 255, 255, 255, 255, 255, 255, 255, 255, 255, 31]) 256 := seg_of h113 (powF_len twoF_ff _ _)
      rw [e4_dv, ← hM] at s113
      have s129 : seg ρ 129 16 = mulF (seg ρ 48 16) (seg ρ 113 16) := seg_of h129 (by rw [s48, s113]; exact fX.len)
      rw [s48, s113] at s129
      have s145 : seg ρ 145 16 = mulF (seg ρ 129 16) (seg ρ 129 16) := seg_of h145 (by rw [s129]; exact (mulF_ff fX fX).len)
      rw [s129] at s145
      have s161 : seg ρ 161 32 = dg 256 32 (dv 65536 (seg ρ 145 16) % PP) := seg_of h161 (dg_len _ _ _)
      rw [s145, mXX] at s161
      have q193 : ρ 193 = b2i (decide (seg ρ 161 32 = seg ρ 16 32)) := h193.trans (congrArg b2i eqs_lists)
      rw [s161, s16] at q193
      have q193 : ρ 193 = b2i (decide (timesZ (timesZ R' moZ) (timesZ R' moZ) % PP = A % PP)) := q193.trans (b2i_congr (dgW (ff_mod_lt _) (ff_mod_lt _)))
      have n113 : FF (seg ρ 48 16) ∧ FF (seg ρ 113 16) := by rw [s48, s113]; exact ⟨fR, fM⟩
      have n129 : FF (seg ρ 129 16) ∧ FF (seg ρ 129 16) := by rw [s129]; exact ⟨fX, fX⟩
      have n145 : FF (seg ρ 145 16) := by rw [s145]; exact mulF_ff fX fX
      have k193 := bit_false q193 (decide_eq_false c2)
      refine ⟨?_, ?_⟩
      · simp only [G_nil, G_bin, G_cmp, G_not, G_conv, G_eqs, G_call, G_cond, G_need, G_idx, G_sel, G_upd, G_shv, G_beq, List.map_cons, List.map_nil, Ref.den]
        exact ⟨n0, n0, n48, n64, k112, twoF_ff, n113, n129, n145, k193, trivial⟩
      · have z0 : dg 256 32 0 = [0, 0, 0, 0, 0, 0, 0, 0, 0, 0, 0, 0, 0, 0, 0, 0, 0, 0, 0, 0, 0, 0, 0, 0, 0, 0, 0, 0, 0, 0, 0, 0] := by decide +kernel
        rw [z0]; rfl
end Go.Proofs.Ytfobnajgnnccmaa
end
section
namespace Go.Bx
theorem pairs16_len : ∀ {l : List Int} (n : Nat), l.length = 2 * n → (pairs16 l).length = n
  | [], n, h => by simp at h; simp [pairs16]; omega
  | [x], n, h => by simp at h; omega
  | x :: y :: l, n, h => by
    have ih := pairs16_len (l := l) (n - 1) (by simp at h; omega)
    simp only [List.length_cons] at h
    simp only [pairs16, List.length_cons, ih]; omega
theorem in_ff {a : List Int} (la : a.length = 32) (dA : Dig 256 a) : FF (pairs16 a) ∧ dv 65536 (pairs16 a) = dv 256 a := ⟨dig_ff (pairs16_len 16 la) (pairs16_dig dA), pairs16_dv 16 la⟩
theorem plusF_ok {a b : List Int} (ha : FF a) (hb : FF b) : FF (plusF a b) ∧ dv 65536 (plusF a b) % PP = (dv 65536 a + dv 65536 b) % PP := by
  have hl : (List.zipWith (· + ·) a b).length = 16 := by rw [List.length_zipWith, ha.len, hb.len]; rfl
  have hbd : Bd 4398046511104 (List.zipWith (· + ·) a b) := zip_bd (m := 65573) (fun x y hx hy => by omega) (ff_bd ha) (ff_bd hb)
  refine ⟨carL_two hl hbd, ?_⟩
  unfold plusF
  rw [carL_mod (carL_len hl), carL_mod hl, zip_dv (s := 1) (fun x y => by omega) (ha.len.trans hb.len.symm), Int.one_mul]
theorem minF_ok {a b : List Int} (ha : FF a) (hb : FF b) : FF (minF a b) ∧ dv 65536 (minF a b) % PP = (dv 65536 a - dv 65536 b) % PP := by
  have hl : (List.zipWith (· - ·) a b).length = 16 := by rw [List.length_zipWith, ha.len, hb.len]; rfl
  have hbd : Bd 4398046511104 (List.zipWith (· - ·) a b) := zip_bd (m := 65573) (fun x y hx hy => by omega) (ff_bd ha) (ff_bd hb)
  refine ⟨carL_two hl hbd, ?_⟩
  unfold minF
  rw [carL_mod (carL_len hl), carL_mod hl, zip_dv (s := -1) (fun x y => by omega) (ha.len.trans hb.len.symm), Int.neg_mul, Int.one_mul]
  rfl
theorem good_iff {a : List Int} (la : a.length = 32) (dA : Dig 256 a) : dg 256 32 (dv 256 a % PP) = a ↔ dv 256 a < PP := by
  have hb := dv_bound (by decide) dA
  constructor
  · intro h
    have h2 := congrArg (dv 256) h
    rw [dvq] at h2
    rw [← h2]; exact modP_lt _
  · intro h
    rw [Int.emod_eq_of_lt hb.1 h]
    have := dg_dv (by decide) dA
    rw [la] at this; exact this
end Go.Bx
namespace Go.Proofs.Ytfobnajgnnccmaa
open Go.RowKit Go.Bx Go.Sx
set_option linter.unusedSimpArgs false
set_option maxRecDepth 100000
def cXNorm : Ctr := ⟨101, 63, [.arr .u8 32], [.arr .u8 32]⟩
def cXGood : Ctr := ⟨73, 64, [.arr .u8 32], [.bool]⟩
def cXSub : Ctr := ⟨79, 66, [.arr .u8 32, .arr .u8 32], [.arr .u8 32]⟩
def GT4 : List Ctr := [cFRoot, cFInv] ++ GT3
theorem okGT4 (hOut : CtrOK Try.prog sfns cOut) : ∀ c ∈ GT4, CtrOK Try.prog sfns c := by
  intro c hc
  rcases List.mem_append.1 hc with hc | hc
  · simp only [List.mem_cons, List.not_mem_nil, or_false] at hc
    rcases hc with rfl | rfl
    · exact okFRoot hOut
    · exact okFInv hOut
  · exact okGT3 hOut c hc
theorem okXNorm (hOut : CtrOK Try.prog sfns cOut) : CtrOK Try.prog sfns cXNorm := by
  refine CtrOK.of (okGT4 hOut) mixed (lf := 300) (d := 5) rfl fun w vs xs ha hp => ?_
  obtain ⟨v, a, rfl, rfl, ⟨la, -, ia⟩⟩ := open1 ha
  obtain ⟨fA, vA⟩ := in_ff la (dig8 ia)
  refine Go.Sx.Way.of (dec := []) (fs := [.need 51 [[.v 0, .v 1, .v 2, .v 3, .v 4, .v 5, .v 6, .v 7, .v 8, .v 9, .v 10, .v 11, .v 12, .v 13, .v 14, .v 15, .v 16, .v 17, .v 18, .v 19, .v 20, .v 21, .v 22, .v 23, .v 24, .v 25, .v 26, .v 27, .v 28, .v 29, .v 30, .v 31]], .call 32 51 [[.v 0, .v 1, .v 2, .v 3, .v 4, .v 5, .v 6, .v 7, .v 8, .v 9, .v 10, .v 11, .v 12, .v 13, .v 14, .v 15, .v 16, .v 17, .v 18, .v 19, .v 20, .v 21, .v 22, .v 23, .v 24, .v 25, .v 26, .v 27, .v 28, .v 29, .v 30, .v 31]] 16, .need 52 [[.v 32, .v 33, .v 34, .v 35, .v 36, .v 37, .v 38, .v 39, .v 40, .v 41, .v 42, .v 43, .v 44, .v 45, .v 46, .v 47]], .call 48 52 [[.v 32, .v 33, .v 34, .v 35, .v 36, .v 37, .v 38, .v 39, .v 40, .v 41, .v 42, .v 43, .v 44, .v 45, .v 46, .v 47]] 32]) (refs := [.v 48, .v 49, .v 50, .v 51, .v 52, .v 53, .v 54, .v 55, .v 56, .v 57, .v 58, .v 59, .v 60, .v 61, .v 62, .v 63, .v 64, .v 65, .v 66, .v 67, .v 68, .v 69, .v 70, .v 71, .v 72, .v 73, .v 74, .v 75, .v 76, .v 77, .v 78, .v 79]) (by kernel_rfl) fun ρ hρ hd => ?_
  have ea : seg ρ 0 32 = a := seg_of (fun i hi => by rw [Nat.zero_add, hρ i hi]; simp only [flat, List.flatten_cons, List.flatten_nil, List.append_nil]) la
  simp only [D_nil, D_add, D_sub, D_mul, D_and, D_or, D_xor, D_shl, D_shr, D_andNot, D_quo, D_rem, D_add_i64, D_sub_i64, D_mul_i64, D_add_u32, D_sub_u32, D_mul_u32, D_add_u8, D_sub_u8, D_mul_u8, D_eql, D_neq, D_lss, D_leq, D_gtr, D_geq, D_not, D_conv, D_eqs, D_call, D_cond, D_need, D_idx, D_sel, D_upd, D_shv, D_beq, List.map_cons, List.map_nil, Ref.den] at hd
  obtain ⟨h32, h48, -⟩ := hd
  have s32 : seg ρ 32 16 = pairs16 (seg ρ 0 32) := seg_of h32 (pairs16_len 16 (seg_len _ _ _))
  have s48 : seg ρ 48 32 = dg 256 32 (dv 65536 (seg ρ 32 16) % PP) := seg_of h48 (dg_len _ _ _)
  rw [ea] at s32
  rw [s32, vA] at s48
  refine ⟨?_, s48⟩
  simp only [G_nil, G_bin, G_cmp, G_not, G_conv, G_eqs, G_call, G_cond, G_need, G_idx, G_sel, G_upd, G_shv, G_beq, List.map_cons, List.map_nil, Ref.den]
  refine ⟨trivial, ?_, trivial⟩
  show FF (seg ρ 32 16); rw [s32]; exact fA
theorem okXGood (hOut : CtrOK Try.prog sfns cOut) : CtrOK Try.prog sfns cXGood := by
  refine CtrOK.of (okGT4 hOut) mixed (lf := 300) (d := 5) rfl fun w vs xs ha hp => ?_
  obtain ⟨v, a, rfl, rfl, ⟨la, -, ia⟩⟩ := open1 ha
  obtain ⟨fA, vA⟩ := in_ff la (dig8 ia)
  refine Go.Sx.Way.of (dec := []) (fs := [.need 51 [[.v 0, .v 1, .v 2, .v 3, .v 4, .v 5, .v 6, .v 7, .v 8, .v 9, .v 10, .v 11, .v 12, .v 13, .v 14, .v 15, .v 16, .v 17, .v 18, .v 19, .v 20, .v 21, .v 22, .v 23, .v 24, .v 25, .v 26, .v 27, .v 28, .v 29, .v 30, .v 31]], .call 32 51 [[.v 0, .v 1, .v 2, .v 3, .v 4, .v 5, .v 6, .v 7, .v 8, .v 9, .v 10, .v 11, .v 12, .v 13, .v 14, .v 15, .v 16, .v 17, .v 18, .v 19, .v 20, .v 21, .v 22, .v 23, .v 24, .v 25, .v 26, .v 27, .v 28, .v 29, .v 30, .v 31]] 16, .need 52 [[.v 32, .v 33, .v 34, .v 35, .v 36, .v 37, .v 38, .v 39, .v 40, .v 41, .v 42, .v 43, .v 44, .v 45, .v 46, .v 47]], .call 48 52 [[.v 32, .v 33, .v 34, .v 35, .v 36, .v 37, .v 38, .v 39, .v 40, .v 41, .v 42, .v 43, .v 44, .v 45, .v 46, .v 47]] 32, .eqs 80 [(.v 48, .v 0), (.v 49, .v 1), (.v 50, .v 2), (.v 51, .v 3), (.v 52, .v 4), (.v 53, .v 5), (.v 54, .v 6), (.v 55, .v 7), (.v 56, .v 8), (.v 57, .v 9), (.v 58, .v 10), (.v 59, .v 11), (.v 60, .v 12), (.v 61, .v 13), (.v 62, .v 14), (.v 63, .v 15), (.v 64, .v 16), (.v 65, .v 17), (.v 66, .v 18), (.v 67, .v 19), (.v 68, .v 20), (.v 69, .v 21), (.v 70, .v 22), (.v 71, .v 23), (.v 72, .v 24), (.v 73, .v 25), (.v 74, .v 26), (.v 75, .v 27), (.v 76, .v 28), (.v 77, .v 29), (.v 78, .v 30), (.v 79, .v 31)]]) (refs := [.v 80]) (by kernel_rfl) fun ρ hρ hd => ?_
  have ea : seg ρ 0 32 = a := seg_of (fun i hi => by rw [Nat.zero_add, hρ i hi]; simp only [flat, List.flatten_cons, List.flatten_nil, List.append_nil]) la
  simp only [D_nil, D_add, D_sub, D_mul, D_and, D_or, D_xor, D_shl, D_shr, D_andNot, D_quo, D_rem, D_add_i64, D_sub_i64, D_mul_i64, D_add_u32, D_sub_u32, D_mul_u32, D_add_u8, D_sub_u8, D_mul_u8, D_eql, D_neq, D_lss, D_leq, D_gtr, D_geq, D_not, D_conv, D_eqs, D_call, D_cond, D_need, D_idx, D_sel, D_upd, D_shv, D_beq, List.map_cons, List.map_nil, Ref.den] at hd
  obtain ⟨h32, h48, h80, -⟩ := hd
  have s32 : seg ρ 32 16 = pairs16 (seg ρ 0 32) := seg_of h32 (pairs16_len 16 (seg_len _ _ _))
  have s48 : seg ρ 48 32 = dg 256 32 (dv 65536 (seg ρ 32 16) % PP) := seg_of h48 (dg_len _ _ _)
  have q80 : ρ 80 = b2i (decide (seg ρ 48 32 = seg ρ 0 32)) := h80.trans (congrArg b2i eqs_lists)
  rw [ea] at s32
  rw [s32, vA] at s48
  rw [s48, ea] at q80
  refine ⟨?_, ?_⟩
  · simp only [G_nil, G_bin, G_cmp, G_not, G_conv, G_eqs, G_call, G_cond, G_need, G_idx, G_sel, G_upd, G_shv, G_beq, List.map_cons, List.map_nil, Ref.den]
    refine ⟨trivial, ?_, trivial⟩
    show FF (seg ρ 32 16); rw [s32]; exact fA
  · show [ρ 80] = [b2i (decide (dv 256 a < PP))]
    exact congrArg (fun x => [x]) (q80.trans (b2i_congr (good_iff la (dig8 ia))))
theorem okXSub (hOut : CtrOK Try.prog sfns cOut) : CtrOK Try.prog sfns cXSub := by
  refine CtrOK.of (okGT4 hOut) mixed (lf := 300) (d := 5) rfl fun w vs xs ha hp => ?_
  obtain ⟨v, u, a, b, rfl, rfl, ⟨la, -, ia⟩, ⟨lb, -, ib⟩⟩ := open2 ha
  obtain ⟨fA, vA⟩ := in_ff la (dig8 ia)
  obtain ⟨fB, vB⟩ := in_ff lb (dig8 ib)
  obtain ⟨fC, vC⟩ := (minF_ok fA fB)
  refine Go.Sx.Way.of (dec := []) (fs := [.need 51 [[.v 0, .v 1, .v 2, .v 3, .v 4, .v 5, .v 6, .v 7, .v 8, .v 9, .v 10, .v 11, .v 12, .v 13, .v 14, .v 15, .v 16, .v 17, .v 18, .v 19, .v 20, .v 21, .v 22, .v 23, .v 24, .v 25, .v 26, .v 27, .v 28, .v 29, .v 30, .v 31]], .call 64 51 [[.v 0, .v 1, .v 2, .v 3, .v 4, .v 5, .v 6, .v 7, .v 8, .v 9, .v 10, .v 11, .v 12, .v 13, .v 14, .v 15, .v 16, .v 17, .v 18, .v 19, .v 20, .v 21, .v 22, .v 23, .v 24, .v 25, .v 26, .v 27, .v 28, .v 29, .v 30, .v 31]] 16, .need 51 [[.v 32, .v 33, .v 34, .v 35, .v 36, .v 37, .v 38, .v 39, .v 40, .v 41, .v 42, .v 43, .v 44, .v 45, .v 46, .v 47, .v 48, .v 49, .v 50, .v 51, .v 52, .v 53, .v 54, .v 55, .v 56, .v 57, .v 58, .v 59, .v 60, .v 61, .v 62, .v 63]], .call 80 51 [[.v 32, .v 33, .v 34, .v 35, .v 36, .v 37, .v 38, .v 39, .v 40, .v 41, .v 42, .v 43, .v 44, .v 45, .v 46, .v 47, .v 48, .v 49, .v 50, .v 51, .v 52, .v 53, .v 54, .v 55, .v 56, .v 57, .v 58, .v 59, .v 60, .v 61, .v 62, .v 63]] 16, .need 54 [[.v 64, .v 65, .v 66, .v 67, .v 68, .v 69, .v 70, .v 71, .v 72, .v 73, .v 74, .v 75, .v 76, .v 77, .v 78, .v 79], [.v 80, .v 81, .v 82, .v 83, .v 84, .v 85, .v 86, .v 87, .v 88, .v 89, .v 90, .v 91, .v 92, .v 93, .v 94, .v 95]], .call 96 54 [[.v 64, .v 65, .v 66, .v 67, .v 68, .v 69, .v 70, .v 71, .v 72, .v 73, .v 74, .v 75, .v 76, .v 77, .v 78, .v 79], [.v 80, .v 81, .v 82, .v 83, .v 84, .v 85, .v 86, .v 87, .v 88, .v 89, .v 90, .v 91, .v 92, .v 93, .v 94, .v 95]] 16, .need 52 [[.v 96, .v 97, .v 98, .v 99, .v 100, .v 101, .v 102, .v 103, .v 104, .v 105, .v 106, .v 107, .v 108, .v 109, .v 110, .v 111]], .call 112 52 [[.v 96, .v 97, .v 98, .v 99, .v 100, .v 101, .v 102, .v 103, .v 104, .v 105, .v 106, .v 107, .v 108, .v 109, .v 110, .v 111]] 32]) (refs := [.v 112, .v 113, .v 114, .v 115, .v 116, .v 117, .v 118, .v 119, .v 120, .v 121, .v 122, .v 123, .v 124, .v 125, .v 126, .v 127, .v 128, .v 129, .v 130, .v 131, .v 132, .v 133, .v 134, .v 135, .v 136, .v 137, .v 138, .v 139, .v 140, .v 141, .v 142, .v 143]) (by kernel_rfl) fun ρ hρ hd => ?_
  have ea : seg ρ 0 32 = a := seg_of (fun i hi => by
    rw [Nat.zero_add, hρ i (by show i < 64; omega)]
    simp only [flat, List.flatten_cons, List.flatten_nil, List.append_nil, List.getD_eq_getElem?_getD]
    rw [List.getElem?_append_left (by omega)]) la
  have eb : seg ρ 32 32 = b := seg_of (fun i hi => by
    rw [hρ (32 + i) (by show 32 + i < 64; omega)]
    simp only [flat, List.flatten_cons, List.flatten_nil, List.append_nil, List.getD_eq_getElem?_getD]
    rw [List.getElem?_append_right (by omega), la, Nat.add_sub_cancel_left]) lb
  simp only [D_nil, D_add, D_sub, D_mul, D_and, D_or, D_xor, D_shl, D_shr, D_andNot, D_quo, D_rem, D_add_i64, D_sub_i64, D_mul_i64, D_add_u32, D_sub_u32, D_mul_u32, D_add_u8, D_sub_u8, D_mul_u8, D_eql, D_neq, D_lss, D_leq, D_gtr, D_geq, D_not, D_conv, D_eqs, D_call, D_cond, D_need, D_idx, D_sel, D_upd, D_shv, D_beq, List.map_cons, List.map_nil, Ref.den] at hd
  obtain ⟨h64, h80, h96, h112, -⟩ := hd
  have s64 : seg ρ 64 16 = pairs16 (seg ρ 0 32) := seg_of h64 (pairs16_len 16 (seg_len _ _ _))
  have s80 : seg ρ 80 16 = pairs16 (seg ρ 32 32) := seg_of h80 (pairs16_len 16 (seg_len _ _ _))
  rw [ea] at s64
  rw [eb] at s80
  have s96 : seg ρ 96 16 = minF (seg ρ 64 16) (seg ρ 80 16) := seg_of h96 (by rw [s64, s80]; exact fC.len)
  rw [s64, s80] at s96
  have s112 : seg ρ 112 32 = dg 256 32 (dv 65536 (seg ρ 96 16) % PP) := seg_of h112 (dg_len _ _ _)
  rw [s96, vC, vA, vB] at s112
  refine ⟨?_, s112⟩
  simp only [G_nil, G_bin, G_cmp, G_not, G_conv, G_eqs, G_call, G_cond, G_need, G_idx, G_sel, G_upd, G_shv, G_beq, List.map_cons, List.map_nil, Ref.den]
  refine ⟨trivial, trivial, ?_, ?_, trivial⟩
  · show FF (seg ρ 64 16) ∧ FF (seg ρ 80 16); rw [s64, s80]; exact ⟨fA, fB⟩
  · show FF (seg ρ 96 16); rw [s96]; exact fC
def GT5 : List Ctr := cXSub :: GT4
theorem okGT5 (hOut : CtrOK Try.prog sfns cOut) : ∀ c ∈ GT5, CtrOK Try.prog sfns c := by
  intro c hc
  rcases List.mem_cons.1 hc with rfl | hc
  · exact okXSub hOut
  · exact okGT4 hOut c hc
theorem sg70 (a : List Int) : sfns.g 70 [a] = (if timesZ (rootT (dv 256 a)) (rootT (dv 256 a)) % PP = dv 256 a % PP then dg 256 32 (evenZ (rootT (dv 256 a) % PP)) ++ [1] else dg 256 32 0 ++ [0]) := by simp only [sfns, sg, sgR]
end Go.Proofs.Ytfobnajgnnccmaa
end
section
namespace Go.Bx
/-- So many bytes of a number, the lowest first. -/
def leB (v : Nat) (n : Nat) : List UInt8 := (List.range n).map fun i => UInt8.ofNat (v / 256 ^ i % 256)
theorem leB_len (v n : Nat) : (leB v n).length = n := by simp [leB]
theorem leB_succ (v n : Nat) : leB v (n + 1) = leB v n ++ [UInt8.ofNat (v / 256 ^ n % 256)] := by simp [leB, List.range_succ]
theorem le_byte (v n : Nat) : (v : Int) / 2 ^ (8 * n) % 256 = ((v / 256 ^ n % 256 : Nat) : Int) := by
  rw [Int.natCast_emod, Int.natCast_ediv, Int.natCast_pow, Int.pow_mul]; rfl
end Go.Bx
namespace Go.Proofs.Ytfobnajgnnccmaa
open Go.RowKit Go.Bx
theorem held_any (w : World) : Calls Try.prog 114 #[.int .i64 8] w fun e w' => e = .returned (.int .i64 8) ∧ w' = w := by
  go_enter Try.func114, Try.ntmps114
  go_wp2
  go_ret
  exact ⟨rfl, rfl⟩
structure LitRel (w : World) (v : Nat) (x i : Value) (wr : World) : Prop where
  ex : ∃ (n : Nat), i = .int .i64 (n : Int) ∧ n ≤ 8 ∧ Own wr w.heap.size 1 x n (bvs (leB v n)) ∧ Below w.heap.size w wr
set_option maxHeartbeats 1000000 in
theorem little_any (v : Nat) (hv : v < 18446744073709551616) (w : World) :
    Calls Try.prog 105 #[.slice none 0 0, .int .u64 (v : Int), .int .i64 8] w fun e w' => ∃ r, e = .returned r ∧ Own w' w.heap.size 1 r 8 (bvs (leB v 8)) ∧ Below w.heap.size w w' := by
  obtain ⟨i0, hi, hz0, hz1, hz2⟩ := info_parts infoB
  have HV := Held.mk hv
  have HN : Held (Sl w 1 (.slice none 0 0) 0 []) := ⟨Sl.zero _ _⟩
  clear hv
  go_enter Try.func105, Try.ntmps105
  go_wp2_with (at_builtin; go_must (refine wpList_append rfl _ _ 47 47 rfl (Own.zero _ w.heap.size 1 _ _) rfl 5 i0 (.int .u8 0) 1 Try.underlying47 hi hz0 hz1 hz2 rfl (by decide) rfl ((HN.out.grow ?b).src (by simp) Try.underlying47) ?c1 ?c2 ?c3 ?_); exact (Below.refl _ _).alloc (Nat.le_refl _) _; decide; decide; simp; intro v' w1 hown1 hfr hob)
  all_goals
    have hb1 : Below w.heap.size w w1 := ((Below.refl _ _).alloc (Nat.le_refl _) _).trans (hfr.own (by simp))
    rw [Nat.zero_add, List.nil_append] at hown1
    go_loopw [7, 8] (fun x i wr => LitRel w v x i wr) (fun _ i _ => 8 - (intOf i).toNat)
    case atStart =>
      exact ⟨⟨0, rfl, by omega, hown1, hb1⟩⟩
    case round =>
      obtain ⟨n, rfl, hn8, hown, hb⟩ := hrel.ex
      have HO := Held.mk hown
      clear hown hrel hown1 hb1 hfr hob
      by_cases h8 : (n : Int) < 8
      · go_wp2_with (first | (go_at_call 114; refine (held_any _).mono ?_; rintro e w1 ⟨rfl, rfl⟩) | (at_builtin; go_must (refine wpList_append rfl _ _ 47 47 rfl (HO.out.grow ?_) rfl 5 i0 (.int .u8 0) 1 Try.underlying47 hi hz0 hz1 hz2 rfl (by decide) rfl ((Sl.one _ _ _).src ?_ Try.underlying47) ?_ ?_ ?_ ?_); exact (Below.refl _ _).alloc (Nat.le_refl _) _; simp [Value.oneCell']; (unfold maxLen; omega); omega; exact Nat.le_trans hb.size (by simp); intro v' w2 hown2 hfr hob))
        have e1 := le_byte v n
        rw [e1, ← bv_ofNat _ (by omega), bvs_snoc, ← leB_succ] at hown2
        refine ⟨⟨n + 1, ?_, by omega, hown2, ?_⟩, ?_⟩
        · push_cast; rfl
        · rw [e1] at hfr
          exact (hb.alloc hb.size _).trans (hfr.own (Nat.le_trans hb.size (by simp)))
        · simp [intOf]; omega
      · have hn : n = 8 := by omega
        subst hn
        go_wp2_with (go_at_call 114; refine (held_any _).mono ?_; rintro e w1 ⟨rfl, rfl⟩)
        go_ret
        exact ⟨_, rfl, HO.out, hb⟩
end Go.Proofs.Ytfobnajgnnccmaa
end
section
namespace Go.Sx
open Go Go.RowKit Go.Bx
theorem frame_lit' (t : Array Value) (n : Nat) (hn : t.size = n) (L : List Value) (hL : (List.range n).map (fun i => t.getD i Go.undef) = L) : t = L.toArray := by
  subst hL
  apply Array.ext
  · simp [hn]
  · intro i h1 h2
    simp [h1]
/-- What the statement makes of names: eight cells of a block. -/
def ofSp (T : TypeId) : List SV → St → Option (List SV × List Fact × St) := fun (sl : List SV) (st : St) =>
  match (sl[3]? : Option SV), (sl[4]? : Option SV) with
  | some (.c (.int .u64 r)), some (.c (.ptr b 0)) => match st.mem[b]? with
    | some (some B) => if Nat.beq B.t T && Nat.beq B.cs.length 32 && B.cs.all noUndef && Nat.beq sl.length 22 then
        some ((((sl.set 12 .any).set 13 .any).set 14 .any).set 15 .any, [.call st.n 31 [[r]] 8], { st with n := st.n + 8, mem := st.mem.set b (some { B with cs := rowCells .u8 st.n 8 ++ B.cs.drop 8 }) })
      else none
    | _ => none
  | _, _ => none
end Go.Sx
namespace Go.Proofs.Ytfobnajgnnccmaa
open Go.RowKit Go.Bx Go.Sx
set_option maxRecDepth 100000
theorem nmLittle : (Try.f105.name == "runtime.NumGoroutine") = false := by kernel_rfl
noncomputable def ofBody : Code := (Try.f80).body.getD .skip
set_option maxHeartbeats 2000000 in
theorem of_region {c : Code} (hc : midAt 4 ofBody = some c) (z0 z1 z2 z5 z6 z7 z8 z9 z10 z11 z12 z13 z14 z15 z16 z17 z18 z19 z20 z21 : Value) (v : Nat) (hv : v < 18446744073709551616) (g : Nat) (cs : List Value) (hl : cs.length = 32) (w : World)
    (hg : w.heap[g]? = some (.cells cs.toArray 26 (0, 0))) (Q : Exit → Act → World → Prop)
    (hQ : ∀ (x12 x13 x14 x15 : Value) (w' : World), w'.heap[g]? = some (.cells (bvs (leB v 8) ++ cs.drop 8).toArray 26 (0, 0)) → Fr (· = g) w w' → Q .normal ⟨#[z0, z1, z2, .int .u64 (v : Int), .pointer (some ⟨g, 0, none⟩), z5, z6, z7, z8, z9, z10, z11, x12, x13, x14, x15, z16, z17, z18, z19, z20, z21], []⟩ w') : c.wp Try.prog Q ⟨#[z0, z1, z2, .int .u64 (v : Int), .pointer (some ⟨g, 0, none⟩), z5, z6, z7, z8, z9, z10, z11, z12, z13, z14, z15, z16, z17, z18, z19, z20, z21], []⟩ w := by
  have hszz : (Try.prog.info? 5).map (·.size) = some 1 := by kernel_rfl
  have HV := Held.mk hv
  obtain rfl := Option.some.inj hc
  have hgl : g < w.heap.size := (Array.getElem?_eq_some_iff.1 hg).1
  have hcur : ∀ w', Below w.heap.size w.drew w' → w'.heap[g]? = some (.cells cs.toArray 26 (0, 0)) := fun w' hb => by rw [hb.block g hgl]; exact hg
  have HCU := Held.mk hcur
  have hfit : 0 + Nat.min 8 32 ≤ cs.toArray.size := by rw [List.size_toArray, hl]; decide
  have hbo : ∀ u ∈ bvs (leB v 8), u.oneCell' = true := bvs_one _
  obtain ⟨K, hK⟩ : ∃ K, K = Q .normal := ⟨_, rfl⟩
  refine Code.wp_mono (Q := Exit.then K fun _ _ _ => False) (fun e a w h => ?_) ?_
  · cases e with
    | normal => have h : K a w := h; rw [hK] at h; exact h
    | _ => exact h.elim
  rw [← hK] at hQ
  have HQ := Held.mk hQ
  clear hK hQ hcur hg hv hc
  go_region_law (first
    | (refine step_copy rfl _ _ 47 47 rfl 5 Try.underlying47 hszz rfl (HCU.out _ hb7) rfl HO7.out hbo hfit ?_; intro w8 hg8 hf8)
    | (refine step_calls rfl 105 _ _ rfl Try.func105 nmLittle rfl rfl (little_any v HV.out _) ?_; rintro e w7 ⟨r7, rfl, ho7, hb7⟩; refine ⟨_, rfl, ?_⟩; have HO7 := Held.mk ho7.sl; clear ho7))
  all_goals
    refine HQ.out _ _ _ _ w8 ?_ ?_
    · rw [hg8]
      refine congrArg (fun l : List Value => some (Obj.cells l.toArray 26 (0, 0))) ?_
      have h8 : (bvs (leB v 8)).length = 8 := by rw [bvs_length, leB_len]
      have h9 : List.take (Nat.min 8 32) (bvs (leB v 8)) = bvs (leB v 8) := List.take_of_length_le (by rw [h8]; decide)
      rw [h9]
      simp [splice, h8]
    · exact (Fr.ofBelow (((Below.refl _ _).drew).trans hb7) _).trans hf8
end Go.Proofs.Ytfobnajgnnccmaa
end
section
namespace Go.Bx
theorem leB_get (v : Nat) (r : Int) (hr : r = (v : Int)) (hv : v < 18446744073709551616) {i : Nat} (hi : i < 8) : (dg 256 32 (dv 256 [r] % PP)).getD i 0 = ((v / 256 ^ i % 256 : Nat) : Int) := by
  have hP : (18446744073709551616 : Int) < PP := by decide
  have e : dv 256 [r] % PP = (v : Int) := by
    simp only [dv, Int.mul_zero, Int.add_zero]
    rw [hr, Int.emod_eq_of_lt (by omega) (by omega)]
  rw [e, dg_getD (by decide) _ (by omega), Int.natCast_emod, Int.natCast_ediv, Int.natCast_pow]; rfl
end Go.Bx
namespace Go.Sx
open Go Go.RowKit Go.Bx
theorem set4 {sl : List SV} {i : Nat} (h1 : i ≠ 12) (h2 : i ≠ 13) (h3 : i ≠ 14) (h4 : i ≠ 15) : ((((sl.set 12 .any).set 13 .any).set 14 .any).set 15 .any)[i]? = sl[i]? := by
  rw [List.getElem?_set_ne (Ne.symm h4), List.getElem?_set_ne (Ne.symm h3), List.getElem?_set_ne (Ne.symm h2), List.getElem?_set_ne (Ne.symm h1)]
theorem Good.put {E : Env} {mem : Mem} {w w' : World} (h : Good E mem w) {b g : Nat} {B : Blk} (hb : mem[b]? = some (some B)) (hE : E.blk b = some g) {cs : List C} (hc : oks E cs) (hw : w'.heap[g]? = some (.cells (dens E cs).toArray B.t (0, 0))) (hf : Fr (· = g) w w') : Good E (mem.set b (some { B with cs := cs })) w' := by
  refine ⟨fun i hi => h.len i (by simpa using hi), h.nd, fun i k hk => Nat.lt_of_lt_of_le (h.lt i k hk) hf.size, fun i B' hi => ?_⟩
  by_cases e : b = i
  · subst e
    rw [List.getElem?_set_self (List.getElem?_eq_some_iff.1 hb).1] at hi
    cases hi
    exact ⟨g, hE, hw, hc⟩
  · rw [List.getElem?_set_ne e] at hi
    obtain ⟨k, k1, k2, k3⟩ := h.at_ i B' hi
    refine ⟨k, k1, ?_, k3⟩
    rw [hf.block k (Array.getElem?_eq_some_iff.1 k2).1 fun q => e (h.nd b i g hE (by rw [k1, q]))]
    exact k2
end Go.Sx
namespace Go.Proofs.Ytfobnajgnnccmaa
open Go.RowKit Go.Bx Go.Sx
set_option maxRecDepth 100000
set_option linter.unusedSimpArgs false
set_option linter.unusedVariables false
set_option maxHeartbeats 2000000 in
theorem ofSp_ok (c : Code) (hc : midAt 4 ofBody = some c) (sl : List SV) (st : St) (sl' : List SV) (fs : List Fact) (st' : St) (h : ofSp 26 sl st = some (sl', fs, st')) : Runs sfns (c.wp Try.prog) sl st .normal sl' fs st' := by
  unfold ofSp at h
  split at h
  · rename_i r b h3 h4
    split at h
    · rename_i B hB
      split at h
      · rename_i hk
        simp only [Bool.and_eq_true] at hk
        obtain ⟨⟨⟨k1, k2⟩, k3⟩, k4⟩ := hk
        have k1 := Nat.eq_of_beq_eq_true k1
        have k2 := Nat.eq_of_beq_eq_true k2
        have k4 := Nat.eq_of_beq_eq_true k4
        cases h
        refine ⟨MemLe.set hB, fun ρ hf hkn => ⟨hkn, fun E a w hρ hg hs Q hQ => ?_⟩⟩
        have hcall := hf _ (List.mem_singleton.2 rfl)
        subst hρ
        simp only [Fact.ok, List.map_cons, List.map_nil] at hcall
        obtain ⟨t, d⟩ := a
        obtain rfl : d = [] := hs.df
        have ht : t.size = 22 := hs.sz.trans k4
        obtain ⟨p3, o3⟩ := hs.at_ 3 _ h3
        have o3 : InR .u64 (r.den E.ρ) := o3
        obtain ⟨g, g1, g2, g3⟩ := hg.at_ b B hB
        obtain ⟨g', e1, p4⟩ := rel_ptr (hs.at_ 4 _ h4)
        rw [g1] at e1; cases e1
        obtain ⟨v, hv⟩ := Int.eq_ofNat_of_zero_le (in64 o3).1
        have hv64 : v < 18446744073709551616 := by have := (in64 o3).2; omega
        have q3 : t.getD 3 Go.undef = .int .u64 (v : Int) := by rw [← hv]; exact p3
        have q4 : t.getD 4 Go.undef = .pointer (some ⟨g, 0, none⟩) := p4
        have et := frame_lit' t 22 ht [t.getD 0 Go.undef, t.getD 1 Go.undef, t.getD 2 Go.undef, t.getD 3 Go.undef, t.getD 4 Go.undef, t.getD 5 Go.undef, t.getD 6 Go.undef, t.getD 7 Go.undef, t.getD 8 Go.undef, t.getD 9 Go.undef, t.getD 10 Go.undef, t.getD 11 Go.undef, t.getD 12 Go.undef, t.getD 13 Go.undef, t.getD 14 Go.undef, t.getD 15 Go.undef, t.getD 16 Go.undef, t.getD 17 Go.undef, t.getD 18 Go.undef, t.getD 19 Go.undef, t.getD 20 Go.undef, t.getD 21 Go.undef] (by kernel_rfl)
        rw [q3, q4] at et
        have hcells : ∀ i, i < 8 → E.ρ (st.n + i) = ((v / 256 ^ i % 256 : Nat) : Int) := fun i hi => by
          rw [hcall i hi]; exact leB_get v _ hv hv64 hi
        have hd8 : dens E (rowCells .u8 st.n 8) = bvs (leB v 8) := by
          simp only [dens, rowCells, bvs, leB, List.map_map]
          refine List.map_congr_left fun i hi => ?_
          have hi := List.mem_range.1 hi
          simp only [Function.comp_apply, C.den, Ref.den, hcells i hi]
          exact (bv_ofNat _ (Nat.mod_lt _ (by decide))).symm
        have ho8 : oks E (rowCells .u8 st.n 8 ++ B.cs.drop 8) := fun x hx => by
          rcases List.mem_append.1 hx with hx | hx
          · obtain ⟨i, hi, rfl⟩ := List.mem_map.1 hx
            have hi := List.mem_range.1 hi
            show InR .u8 (E.ρ (st.n + i))
            rw [hcells i hi]
            have := Nat.mod_lt (v / 256 ^ i) (show 0 < 256 by decide)
            exact ⟨by show (0 : Int) ≤ _; omega, by show _ ≤ (255 : Int); omega⟩
          · exact g3 x (List.mem_of_mem_drop hx)
        have hda : dens E (rowCells .u8 st.n 8 ++ B.cs.drop 8) = bvs (leB v 8) ++ (dens E B.cs).drop 8 := by
          rw [← hd8]; simp [dens, List.map_drop]
        have keep : ∀ {i : Nat} {s : SV}, ((((sl.set 12 .any).set 13 .any).set 14 .any).set 15 .any)[i]? = some s → i ≠ 12 → i ≠ 13 → i ≠ 14 → i ≠ 15 → sl[i]? = some s := fun h a b c d => by rw [set4 a b c d] at h; exact h
        have main := of_region hc (t.getD 0 Go.undef) (t.getD 1 Go.undef) (t.getD 2 Go.undef) (t.getD 5 Go.undef) (t.getD 6 Go.undef) (t.getD 7 Go.undef) (t.getD 8 Go.undef) (t.getD 9 Go.undef) (t.getD 10 Go.undef) (t.getD 11 Go.undef) (t.getD 12 Go.undef) (t.getD 13 Go.undef) (t.getD 14 Go.undef) (t.getD 15 Go.undef) (t.getD 16 Go.undef) (t.getD 17 Go.undef) (t.getD 18 Go.undef) (t.getD 19 Go.undef) (t.getD 20 Go.undef) (t.getD 21 Go.undef) v hv64 g (dens E B.cs) (by rw [dens, List.length_map, k2]) w (by rw [g2, k1]) Q fun x12 x13 x14 x15 w' h1 h2 => by
          refine hQ E ⟨#[t.getD 0 Go.undef, t.getD 1 Go.undef, t.getD 2 Go.undef, .int .u64 (v : Int), .pointer (some ⟨g, 0, none⟩), t.getD 5 Go.undef, t.getD 6 Go.undef, t.getD 7 Go.undef, t.getD 8 Go.undef, t.getD 9 Go.undef, t.getD 10 Go.undef, t.getD 11 Go.undef, x12, x13, x14, x15, t.getD 16 Go.undef, t.getD 17 Go.undef, t.getD 18 Go.undef, t.getD 19 Go.undef, t.getD 20 Go.undef, t.getD 21 Go.undef], []⟩ w' (Ext.refl _ _ _) ⟨by simp [k4], rfl, fun i s h => ?_⟩ (hg.put hB g1 ho8 (by rw [h1, hda, k1]) h2) (h2.mono fun i _ q => ⟨b, B, hB, by rw [q]; exact g1⟩)
          have hi : i < 22 := by have := (List.getElem?_eq_some_iff.1 h).1; simpa [k4] using this
          have any_of : ∀ {i : Nat} {v : Value}, (i = 12 ∨ i = 13 ∨ i = 14 ∨ i = 15) → ((((sl.set 12 .any).set 13 .any).set 14 .any).set 15 .any)[i]? = some s → s.Rel E v := fun {i v} hi h => by
            have : s = .any := by
              rcases hi with rfl | rfl | rfl | rfl <;> simp [k4] at h <;> exact h.symm
            subst this; trivial
          match i, h with
          | 0, h => exact hs.at_ 0 s (keep h (by decide) (by decide) (by decide) (by decide))
          | 1, h => exact hs.at_ 1 s (keep h (by decide) (by decide) (by decide) (by decide))
          | 2, h => exact hs.at_ 2 s (keep h (by decide) (by decide) (by decide) (by decide))
          | 3, h => have := hs.at_ 3 s (keep h (by decide) (by decide) (by decide) (by decide)); rw [q3] at this; exact this
          | 4, h => have := hs.at_ 4 s (keep h (by decide) (by decide) (by decide) (by decide)); rw [q4] at this; exact this
          | 5, h => exact hs.at_ 5 s (keep h (by decide) (by decide) (by decide) (by decide))
          | 6, h => exact hs.at_ 6 s (keep h (by decide) (by decide) (by decide) (by decide))
          | 7, h => exact hs.at_ 7 s (keep h (by decide) (by decide) (by decide) (by decide))
          | 8, h => exact hs.at_ 8 s (keep h (by decide) (by decide) (by decide) (by decide))
          | 9, h => exact hs.at_ 9 s (keep h (by decide) (by decide) (by decide) (by decide))
          | 10, h => exact hs.at_ 10 s (keep h (by decide) (by decide) (by decide) (by decide))
          | 11, h => exact hs.at_ 11 s (keep h (by decide) (by decide) (by decide) (by decide))
          | 12, h => exact any_of (by decide) h
          | 13, h => exact any_of (by decide) h
          | 14, h => exact any_of (by decide) h
          | 15, h => exact any_of (by decide) h
          | 16, h => exact hs.at_ 16 s (keep h (by decide) (by decide) (by decide) (by decide))
          | 17, h => exact hs.at_ 17 s (keep h (by decide) (by decide) (by decide) (by decide))
          | 18, h => exact hs.at_ 18 s (keep h (by decide) (by decide) (by decide) (by decide))
          | 19, h => exact hs.at_ 19 s (keep h (by decide) (by decide) (by decide) (by decide))
          | 20, h => exact hs.at_ 20 s (keep h (by decide) (by decide) (by decide) (by decide))
          | 21, h => exact hs.at_ 21 s (keep h (by decide) (by decide) (by decide) (by decide))
          | n + 22, h => exact absurd (List.getElem?_eq_some_iff.1 h).1 (by simp [k4])
        rw [et]
        exact main
      · cases h
    · cases h
  · cases h
def cXOf : Ctr := ⟨80, 71, [.int .i64], [.arr .u8 32]⟩
theorem of8 {ρ : Nat → Int} {k : Nat} {x : Int} (h0 : 0 ≤ x) (h1 : x < 18446744073709551616) (h : ∀ i, i < 8 → ρ (k + i) = (sfns.g 31 [[x]]).getD i 0) : seg ρ k 8 ++ List.replicate 24 0 = dg 256 32 x := by
  obtain ⟨v, rfl⟩ := Int.eq_ofNat_of_zero_le h0
  have s8 : seg ρ k 8 = dg 256 8 (v : Int) := seg_of (fun i hi => by
    rw [h i hi]
    have e : (sfns.g 31 [[(v : Int)]]).getD i 0 = ((v / 256 ^ i % 256 : Nat) : Int) := leB_get v _ rfl (by omega) hi
    rw [e, dg_getD (by decide) _ (by omega), Int.natCast_emod, Int.natCast_ediv, Int.natCast_pow]; rfl) (dg_len _ _ _)
  rw [s8]
  have h8 : (v : Int) < 256 ^ 8 := by have : (256 : Int) ^ 8 = 18446744073709551616 := by decide
                                      omega
  refine dg_eq (by decide) (by rw [List.length_append, dg_len, List.length_replicate]) ⟨fun z hz => ?_⟩ ?_
  · rcases List.mem_append.1 hz with hz | hz
    · exact (dg_dig (by decide) 8 (v : Int)).d z hz
    · have := List.eq_of_mem_replicate hz; subst this; decide
  · rw [dv_append, dv_dg_of (by decide) h0 h8, show dv 256 (List.replicate 24 0) = 0 by decide +kernel, Int.mul_zero, Int.add_zero]
theorem okSubL (hOut : CtrOK Try.prog sfns cOut) : ∀ c ∈ [cXSub], CtrOK Try.prog sfns c := fun c hc => by
  rcases List.mem_singleton.1 hc with rfl
  exact okXSub hOut
theorem ofFn : Try.prog.funcs[cXOf.f]? = some Try.f80 := by kernel_rfl
theorem okXOf (hOut : CtrOK Try.prog sfns cOut) : CtrOK Try.prog sfns cXOf := by
  refine CtrOK.ofR (R := runK Try.prog (callN Try.prog [cXSub] 300 5) 300 (ofSp 26) 4) (fun fn c' hf hc' sl st e sl' fs st' h => ?_) rfl fun w vs xs ha _ => ?_
  · rw [ofFn] at hf
    cases hf
    have hb : ofBody = c' := by unfold ofBody; rw [hc']; rfl
    subst hb
    exact runK_ok (callN_ok (okSubL hOut) mixed 300 5) mixed 300 4 ofBody (fun c hc => ofSp_ok c hc) sl st e sl' fs st' h
  · obtain ⟨v, a, rfl, rfl, ⟨n, rfl, rfl, hn⟩⟩ := open1 ha
    have bn : -9223372036854775808 ≤ n ∧ n ≤ 9223372036854775807 := ⟨hn.lo, hn.hi⟩
    have hP : (18446744073709551616 : Int) < PP := by decide
    by_cases hneg : n < 0
    · refine WayR.of (dec := [true,true]) (fs := [.conv 1 .u64 (.v 0), .cmp 2 .lss (.v 0) (.l 0), .cond 2 true, .bin 3 .sub .u64 (.l 0) (.v 1), .call 4 31 [[.v 3]] 8, .cmp 12 .lss (.v 0) (.l 0), .cond 12 true, .need 66 [[.l 0, .l 0, .l 0, .l 0, .l 0, .l 0, .l 0, .l 0, .l 0, .l 0, .l 0, .l 0, .l 0, .l 0, .l 0, .l 0, .l 0, .l 0, .l 0, .l 0, .l 0, .l 0, .l 0, .l 0, .l 0, .l 0, .l 0, .l 0, .l 0, .l 0, .l 0, .l 0], [.v 4, .v 5, .v 6, .v 7, .v 8, .v 9, .v 10, .v 11, .l 0, .l 0, .l 0, .l 0, .l 0, .l 0, .l 0, .l 0, .l 0, .l 0, .l 0, .l 0, .l 0, .l 0, .l 0, .l 0, .l 0, .l 0, .l 0, .l 0, .l 0, .l 0, .l 0, .l 0]], .call 13 66 [[.l 0, .l 0, .l 0, .l 0, .l 0, .l 0, .l 0, .l 0, .l 0, .l 0, .l 0, .l 0, .l 0, .l 0, .l 0, .l 0, .l 0, .l 0, .l 0, .l 0, .l 0, .l 0, .l 0, .l 0, .l 0, .l 0, .l 0, .l 0, .l 0, .l 0, .l 0, .l 0], [.v 4, .v 5, .v 6, .v 7, .v 8, .v 9, .v 10, .v 11, .l 0, .l 0, .l 0, .l 0, .l 0, .l 0, .l 0, .l 0, .l 0, .l 0, .l 0, .l 0, .l 0, .l 0, .l 0, .l 0, .l 0, .l 0, .l 0, .l 0, .l 0, .l 0, .l 0, .l 0]] 32]) (refs := [.v 13, .v 14, .v 15, .v 16, .v 17, .v 18, .v 19, .v 20, .v 21, .v 22, .v 23, .v 24, .v 25, .v 26, .v 27, .v 28, .v 29, .v 30, .v 31, .v 32, .v 33, .v 34, .v 35, .v 36, .v 37, .v 38, .v 39, .v 40, .v 41, .v 42, .v 43, .v 44]) (by kernel_rfl) fun ρ hρ hd => ?_
      have r0 : ρ 0 = n := hρ 0 (by decide)
      simp only [D_nil, D_add, D_sub, D_mul, D_and, D_or, D_xor, D_shl, D_shr, D_andNot, D_quo, D_rem, D_add_i64, D_sub_i64, D_mul_i64, D_add_u32, D_sub_u32, D_mul_u32, D_add_u8, D_sub_u8, D_mul_u8, D_eql, D_neq, D_lss, D_leq, D_gtr, D_geq, D_not, D_conv, D_eqs, D_call, D_cond, D_need, D_idx, D_sel, D_upd, D_shv, D_beq, List.map_cons, List.map_nil, Ref.den, r0, c_u64] at hd
      obtain ⟨h1, h2, h3, h4, h12, h13, -⟩ := hd
      have e3' : ρ 3 = -n := by omega
      have k2 := bit_true h2 (decide_eq_true hneg)
      have k12 := bit_true h12 (decide_eq_true hneg)
      rw [e3'] at h4
      have s4 := of8 (ρ := ρ) (k := 4) (x := -n) (by omega) (by omega) h4
      have s13 : seg ρ 13 32 = dg 256 32 ((dv 256 (List.replicate 32 0) - dv 256 (seg ρ 4 8 ++ List.replicate 24 0)) % PP) := seg_of h13 (dg_len _ _ _)
      have hd2 : dv 256 (dg 256 32 (-n)) = -n := dv_small (by omega)
      rw [s4, hd2, show dv 256 (List.replicate 32 0) = 0 by decide +kernel, show (0 : Int) - -n = n by omega] at s13
      refine ⟨?_, s13⟩
      simp only [G_nil, G_bin, G_cmp, G_not, G_conv, G_eqs, G_call, G_cond, G_need, G_idx, G_sel, G_upd, G_shv, G_beq, List.map_cons, List.map_nil, Ref.den]
      exact ⟨k2, k12, trivial, trivial⟩
    · refine WayR.of (dec := [false,false]) (fs := [.conv 1 .u64 (.v 0), .cmp 2 .lss (.v 0) (.l 0), .cond 2 false, .call 3 31 [[.v 1]] 8, .cmp 11 .lss (.v 0) (.l 0), .cond 11 false]) (refs := [.v 3, .v 4, .v 5, .v 6, .v 7, .v 8, .v 9, .v 10, .l 0, .l 0, .l 0, .l 0, .l 0, .l 0, .l 0, .l 0, .l 0, .l 0, .l 0, .l 0, .l 0, .l 0, .l 0, .l 0, .l 0, .l 0, .l 0, .l 0, .l 0, .l 0, .l 0, .l 0]) (by kernel_rfl) fun ρ hρ hd => ?_
      have r0 : ρ 0 = n := hρ 0 (by decide)
      simp only [D_nil, D_add, D_sub, D_mul, D_and, D_or, D_xor, D_shl, D_shr, D_andNot, D_quo, D_rem, D_add_i64, D_sub_i64, D_mul_i64, D_add_u32, D_sub_u32, D_mul_u32, D_add_u8, D_sub_u8, D_mul_u8, D_eql, D_neq, D_lss, D_leq, D_gtr, D_geq, D_not, D_conv, D_eqs, D_call, D_cond, D_need, D_idx, D_sel, D_upd, D_shv, D_beq, List.map_cons, List.map_nil, Ref.den, r0, c_u64] at hd
      obtain ⟨h1, h2, h3, h11, -⟩ := hd
      have e1 : ρ 1 = n := by omega
      have k2 := bit_false h2 (decide_eq_false hneg)
      have k11 := bit_false h11 (decide_eq_false hneg)
      rw [e1] at h3
      have s3 := of8 (ρ := ρ) (k := 3) (x := n) (by omega) (by omega) h3
      refine ⟨?_, ?_⟩
      · simp only [G_nil, G_bin, G_cmp, G_not, G_conv, G_eqs, G_call, G_cond, G_need, G_idx, G_sel, G_upd, G_shv, G_beq, List.map_cons, List.map_nil, Ref.den]
        exact ⟨k2, k11, trivial⟩
      · show seg ρ 3 8 ++ List.replicate 24 0 = dg 256 32 (n % PP)
        rw [s3, Int.emod_eq_of_lt (by omega) (by omega)]
end Go.Proofs.Ytfobnajgnnccmaa
end

