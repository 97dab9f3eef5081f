/- Numbers modulo L, the paper's own functions: what is shown of Mod. No condition. -/
import Derived.Test.YtokndemdmkaofaaRk2
import Derived.Test.YtokndemdmkaofaaSxP
import Derived.Test.YtokndemdmkaofaaSk4
import Derived.Test.YtokndemdmkaofaaSk6
namespace Go.Bx
/-- A number in bytes, twice, and a bit more. -/
def dbl : Int → List Int → List Int
  | _, [] => []
  | c, x :: l => (x * 2 % 256 + c) :: dbl (x / 128) l
def dblOut : Int → List Int → Int
  | c, [] => c
  | _, x :: l => dblOut (x / 128) l
theorem dbl_len : ∀ (c : Int) (l : List Int), (dbl c l).length = l.length
  | _, [] => rfl
  | c, x :: l => by simp only [dbl, List.length_cons, dbl_len]
theorem dbl_dv : ∀ (c : Int) (l : List Int), dv 256 (dbl c l) + 256 ^ l.length * dblOut c l = 2 * dv 256 l + c
  | c, [] => by simp [dbl, dblOut, dv]
  | c, x :: l => by
    have ih := dbl_dv (x / 128) l
    simp only [dbl, dblOut, dv, List.length_cons, Int.pow_succ]
    have e : x * 2 = 256 * (x / 128) + x * 2 % 256 := by omega
    generalize dv 256 (dbl (x / 128) l) = u at *
    generalize dv 256 l = v at *
    have e2 : 256 ^ l.length * 256 * dblOut (x / 128) l = 256 * (256 ^ l.length * dblOut (x / 128) l) := by grind
    rw [e2]
    generalize 256 ^ l.length * dblOut (x / 128) l = w at *
    omega
theorem dbl_dig : ∀ (c : Int) (l : List Int), (c = 0 ∨ c = 1) → Dig 256 l → Dig 256 (dbl c l)
  | _, [], _, _ => ⟨fun x hx => by cases hx⟩
  | c, x :: l, hc, h => by
    have hx := h.head
    exact Dig.cons (by omega) (by omega) (dbl_dig (x / 128) l (by omega) h.tail)
theorem dblOut_bit : ∀ (c : Int) (l : List Int), (c = 0 ∨ c = 1) → Dig 256 l → dblOut c l = 0 ∨ dblOut c l = 1
  | _, [], hc, _ => hc
  | c, x :: l, hc, h => by
    have hx := h.head
    exact dblOut_bit (x / 128) l (by omega) h.tail
theorem dbl_cons {c x y a : Int} {l ys : List Int} (hy : y = x * 2 % 256 + c) (ha : a = x / 128) (h : ys = dbl a l) : y :: ys = dbl c (x :: l) := by rw [hy, h, ha]; rfl
theorem dbl_val {c : Int} {l : List Int} (hl : l.length = 32) (hc : c = 0 ∨ c = 1) (hd : Dig 256 l) (hs : dv 256 l < LL) : dv 256 (dbl c l) = 2 * dv 256 l + c ∧ Dig 256 (dbl c l) := by
  have h1 := dbl_dv c l
  have h2 := dbl_dig c l hc hd
  have h3 := dblOut_bit c l hc hd
  have h4 := dv_bound (by decide) h2
  have hL : 2 * LL + 1 < 256 ^ 32 := by decide
  rw [hl] at h1
  generalize dblOut c l = o at *
  generalize (256 : Int) ^ 32 = w at *
  refine ⟨?_, h2⟩
  rcases h3 with rfl | rfl <;> omega
theorem order_dv : dv 256 [237, 211, 245, 92, 26, 99, 18, 88, 214, 156, 247, 162, 222, 249, 222, 20, 0, 0, 0, 0, 0, 0, 0, 0, 0, 0, 0, 0, 0, 0, 0, 16] = LL := by decide +kernel
theorem eight : (2 : Int) ^ 8 = 256 := by decide
end Go.Bx
namespace Go.Proofs.Ytokndemdmkaofaa
open Go.RowKit Go.Bx Go.Sx
set_option linter.unusedSimpArgs false
set_option maxRecDepth 100000
theorem dbl_step {x c a a' s y : Int} (hx : 0 ≤ x ∧ x < 256) (hc : c = 0 ∨ c = 1) (h1 : binZ .shr .u8 x 7 = some a) (h2 : binZ .or .u8 a 0 = some a') (h3 : binZ .shl .u8 x 1 = some s) (h4 : binZ .or .u8 s c = some y) :
    (a' = 0 ∨ a' = 1) ∧ y = x * 2 % 256 + c ∧ a' = x / 128 := by
  have e1 : a = x / 2 ^ 7 := u_shr 7 (by decide) h1 rfl
  simp only [Int.reducePow] at e1
  have e2 : a' = a := k_or0 (by omega) (by show a ≤ 255; omega) h2
  have e3 : s = IntKind.u8.wrap (x * 2 ^ 1) := k_shl 1 (by decide) h3 rfl
  rw [c_u8, show (2 : Int) ^ 1 = 2 by decide] at e3
  have e4 : y = s + c := k_or 1 (x % 128) (by omega) (by rw [e3, show (2 : Int) ^ 1 = 2 by decide]; omega) (by omega) (by rw [show (2 : Int) ^ 1 = 2 by decide]; omega) (by show s + c ≤ 255; omega) h4
  exact ⟨by omega, by omega, by omega⟩
def RT : List Ctr := [cAtL, cMinus]
theorem okRT : ∀ c ∈ RT, CtrOK Try.prog sfns c := by
  intro c hc
  simp only [RT, List.mem_cons, List.not_mem_nil, or_false] at hc
  rcases hc with rfl | rfl
  · exact okAtL
  · exact okMinus
noncomputable def modB : Code := (Try.f28).body.getD .skip
theorem LL256 : LL < 256 ^ 32 ∧ 0 < LL := by decide
def cMod32 : Ctr := ⟨28, 52, [.row .u8 33 32], [.arr .u8 32]⟩
noncomputable def Mod32T : LoopT := ⟨[.c (.slc 0 0 32 32), .any, .c (.ptr 1 0), .c (.ptr 2 0), .c (.ptr 3 0), .c (.int .i64 (.v 0)), .any, .any, .any, .any, .any, .c (.slc 0 0 32 32), .c (.int .i64 (.l 32)), .c (.int .i64 (.l 256)), .c (.int .i64 (.l 255)), .any, .any, .any, .any, .any, .any, .any, .any, .any, .any, .any, .any, .any, .any, .any, .any, .any, .any, .any, .any, .any, .any, .any, .any, .any, .any, .any, .any, .any, .any, .any, .any, .any, .any, .any, .any, .any, .any, .any], [some ⟨33, [.int .u8 (.v 1), .int .u8 (.v 2), .int .u8 (.v 3), .int .u8 (.v 4), .int .u8 (.v 5), .int .u8 (.v 6), .int .u8 (.v 7), .int .u8 (.v 8), .int .u8 (.v 9), .int .u8 (.v 10), .int .u8 (.v 11), .int .u8 (.v 12), .int .u8 (.v 13), .int .u8 (.v 14), .int .u8 (.v 15), .int .u8 (.v 16), .int .u8 (.v 17), .int .u8 (.v 18), .int .u8 (.v 19), .int .u8 (.v 20), .int .u8 (.v 21), .int .u8 (.v 22), .int .u8 (.v 23), .int .u8 (.v 24), .int .u8 (.v 25), .int .u8 (.v 26), .int .u8 (.v 27), .int .u8 (.v 28), .int .u8 (.v 29), .int .u8 (.v 30), .int .u8 (.v 31), .int .u8 (.v 32)]⟩, some ⟨33, [.int .u8 (.l 0), .int .u8 (.l 0), .int .u8 (.l 0), .int .u8 (.l 0), .int .u8 (.l 0), .int .u8 (.l 0), .int .u8 (.l 0), .int .u8 (.l 0), .int .u8 (.l 0), .int .u8 (.l 0), .int .u8 (.l 0), .int .u8 (.l 0), .int .u8 (.l 0), .int .u8 (.l 0), .int .u8 (.l 0), .int .u8 (.l 0), .int .u8 (.l 0), .int .u8 (.l 0), .int .u8 (.l 0), .int .u8 (.l 0), .int .u8 (.l 0), .int .u8 (.l 0), .int .u8 (.l 0), .int .u8 (.l 0), .int .u8 (.l 0), .int .u8 (.l 0), .int .u8 (.l 0), .int .u8 (.l 0), .int .u8 (.l 0), .int .u8 (.l 0), .int .u8 (.l 0), .int .u8 (.l 0)]⟩, some ⟨33, [.int .u8 (.l 237), .int .u8 (.l 211), .int .u8 (.l 245), .int .u8 (.l 92), .int .u8 (.l 26), .int .u8 (.l 99), .int .u8 (.l 18), .int .u8 (.l 88), .int .u8 (.l 214), .int .u8 (.l 156), .int .u8 (.l 247), .int .u8 (.l 162), .int .u8 (.l 222), .int .u8 (.l 249), .int .u8 (.l 222), .int .u8 (.l 20), .int .u8 (.l 0), .int .u8 (.l 0), .int .u8 (.l 0), .int .u8 (.l 0), .int .u8 (.l 0), .int .u8 (.l 0), .int .u8 (.l 0), .int .u8 (.l 0), .int .u8 (.l 0), .int .u8 (.l 0), .int .u8 (.l 0), .int .u8 (.l 0), .int .u8 (.l 0), .int .u8 (.l 0), .int .u8 (.l 0), .int .u8 (.l 16)]⟩, some ⟨33, [.int .u8 (.v 33), .int .u8 (.v 34), .int .u8 (.v 35), .int .u8 (.v 36), .int .u8 (.v 37), .int .u8 (.v 38), .int .u8 (.v 39), .int .u8 (.v 40), .int .u8 (.v 41), .int .u8 (.v 42), .int .u8 (.v 43), .int .u8 (.v 44), .int .u8 (.v 45), .int .u8 (.v 46), .int .u8 (.v 47), .int .u8 (.v 48), .int .u8 (.v 49), .int .u8 (.v 50), .int .u8 (.v 51), .int .u8 (.v 52), .int .u8 (.v 53), .int .u8 (.v 54), .int .u8 (.v 55), .int .u8 (.v 56), .int .u8 (.v 57), .int .u8 (.v 58), .int .u8 (.v 59), .int .u8 (.v 60), .int .u8 (.v 61), .int .u8 (.v 62), .int .u8 (.v 63), .int .u8 (.v 64)]⟩], 65, 32, 0, [.l 255, .v 0, .v 1, .v 2, .v 3, .v 4, .v 5, .v 6, .v 7, .v 8, .v 9, .v 10, .v 11, .v 12, .v 13, .v 14, .v 15, .v 16, .v 17, .v 18, .v 19, .v 20, .v 21, .v 22, .v 23, .v 24, .v 25, .v 26, .v 27, .v 28, .v 29, .v 30, .v 31, .l 0, .l 0, .l 0, .l 0, .l 0, .l 0, .l 0, .l 0, .l 0, .l 0, .l 0, .l 0, .l 0, .l 0, .l 0, .l 0, .l 0, .l 0, .l 0, .l 0, .l 0, .l 0, .l 0, .l 0, .l 0, .l 0, .l 0, .l 0, .l 0, .l 0, .l 0, .l 0]⟩
def Mod32I (ρ0 ρ : Nat → Int) : Prop :=
  seg ρ 1 32 = seg ρ0 1 32 ∧ -1 ≤ ρ 0 ∧ ρ 0 ≤ 255 ∧ seg ρ 33 32 = dg 256 32 (dv 256 (seg ρ0 1 32) / 2 ^ (ρ 0 + 1).toNat % LL)
theorem Mod32_dig {ρ : Nat → Int} (hT : TOk Mod32T.slT Mod32T.memT ρ) : Dig 256 (seg ρ 1 32) := by
  have h1 : ∀ c ∈ (List.range 32).map (fun i => C.int .u8 (.v (1 + i))), C.inr ρ c := hT.m _ (List.mem_cons_self ..)
  exact dig8s (seg_inr h1)
theorem Mod32_get (ρ : Nat → Int) {i : Nat} (hi : i < 65) : ρ i = ([ρ 0] ++ (seg ρ 1 32 ++ seg ρ 33 32)).getD i 0 := by
  rw [show [ρ 0] ++ (seg ρ 1 32 ++ seg ρ 33 32) = seg ρ 0 65 from rfl, seg_get hi, Nat.zero_add]
theorem Mod32_after {ρ0 ρT : Nat → Int} (hI : Mod32I ρ0 ρT) (hge : 0 ≤ ρT 0) {x' : Nat → Int} (hx : x' = fun i => ([ρT 0 - 1] ++ (seg ρT 1 32 ++ dg 256 32 (dv 256 (seg ρ0 1 32) / 2 ^ (ρT 0).toNat % LL))).getD i 0) : Mod32I ρ0 x' ∧ (x' 0 + 1).toNat < (ρT 0 + 1).toNat := by
  obtain ⟨i1, i2, i3, i4⟩ := hI
  have x0 : x' 0 = ρT 0 - 1 := by rw [hx]; rfl
  have l1 : (seg ρT 1 32).length = 32 := seg_len _ _ _
  have xa : seg x' 1 32 = seg ρT 1 32 := by
    have := seg_mid [ρT 0 - 1] (seg ρT 1 32) (dg 256 32 (dv 256 (seg ρ0 1 32) / 2 ^ (ρT 0).toNat % LL))
    rw [l1] at this; rw [hx]; exact this
  have xb : seg x' 33 32 = dg 256 32 (dv 256 (seg ρ0 1 32) / 2 ^ (ρT 0).toNat % LL) := by
    have := seg_end [ρT 0 - 1] (seg ρT 1 32) (dg 256 32 (dv 256 (seg ρ0 1 32) / 2 ^ (ρT 0).toNat % LL))
    rw [l1, dg_len] at this; rw [hx]; exact this
  exact ⟨⟨by rw [xa, i1], by rw [x0]; omega, by rw [x0]; omega, by rw [xb, x0, show (ρT 0 - 1 + 1).toNat = (ρT 0).toNat by congr 1; omega]⟩, by rw [x0]; omega⟩
/-- The bit that comes in, and the number twice. -/
theorem Mod32_mid {ρ0 ρT ρ : Nat → Int} (hT : TOk Mod32T.slT Mod32T.memT ρT) (hI : Mod32I ρ0 ρT) {n : Nat} (hn : ρT 0 = n) (hρ : ∀ i, i < 65 → ρ i = ρT i)
    (g1 : ρ 66 = (n : Int) / 8) (g2 : ρ 67 = (seg ρ 1 32).getD (ρ 66).toNat 0) (g3 : ρ 68 = (n : Int) % 8) (g4 : ρ 69 = ρ 68) (g5 : ρ 70 = shvZ false .u8 (ρ 67) (ρ 69)) (g6 : binZ .and .u8 (ρ 70) 1 = some (ρ 71)) :
    (ρ 71 = 0 ∨ ρ 71 = 1) ∧ 2 * (dv 256 (seg ρ0 1 32) / 2 ^ (n + 1) % LL) + ρ 71 = 2 * (dv 256 (seg ρ0 1 32) / 2 ^ (n + 1) % LL) + dv 256 (seg ρ0 1 32) / 2 ^ n % 2 := by
  obtain ⟨i1, i2, i3, i4⟩ := hI
  have dB := Mod32_dig hT
  have sb : seg ρ 1 32 = seg ρT 1 32 := seg_congr fun i hi => hρ _ (by omega)
  have lb : (seg ρT 1 32).length = 32 := seg_len _ _ _
  have e2 : ρ 67 = (seg ρ0 1 32).getD (n / 8) 0 := by
    rw [g2, sb, i1, g1, show ((n : Int) / 8).toNat = n / 8 by omega]
  have e5 := shv_r (n % 8) (by show n % 8 ≤ 8; omega) g5 (by rw [g4, g3]; omega)
  have e6 := k_and 1 (by decide) rfl g6
  rw [show (2 : Int) ^ 1 = 2 by decide] at e6
  have hb := bit_of (w := 8) (l := seg ρ0 1 32) (i := n / 8) (r := n % 8) (by rw [eight, ← i1]; exact dB) (by rw [← i1, lb]; omega) (by omega)
  rw [eight, show 8 * (n / 8) + n % 8 = n by omega] at hb
  have e7 : ρ 71 = dv 256 (seg ρ0 1 32) / 2 ^ n % 2 := by rw [e6, e5, e2, hb]
  exact ⟨by omega, by rw [e7]⟩
theorem Mod32_go {cl : Code} (hb : loopAt 0 modB = some cl) {ρ0 ρT : Nat → Int} (hT : TOk Mod32T.slT Mod32T.memT ρT) (hI : Mod32I ρ0 ρT) (hge : 0 ≤ ρT 0) :
    ∃ e x', RoundEnd Try.prog sfns (callN Try.prog RT 300 5) 300 cl Mod32T.slT Mod32T.memT Mod32T.m ρT e x' ∧ ((e = .normal ∧ Mod32I ρ0 x' ∧ (x' 0 + 1).toNat < (ρT 0 + 1).toNat) ∨ (e = .exit Mod32T.xid ∧ ∀ i, i < Mod32T.m → x' i = (sfns.g Mod32T.j [xs Mod32T.m ρ0]).getD i 0)) := by
  obtain ⟨i1, i2, i3, i4⟩ := id hI
  obtain ⟨n, hn⟩ := Int.eq_ofNat_of_zero_le hge
  have e0 : (ρT 0 + 1).toNat = n + 1 := by omega
  have e0' : (ρT 0).toNat = n := by omega
  obtain ⟨X, hX⟩ : ∃ X, X = dv 256 (seg ρ0 1 32) := ⟨_, rfl⟩
  obtain ⟨V, hV⟩ : ∃ V, V = X / 2 ^ (n + 1) % LL := ⟨_, rfl⟩
  have hL := LL256
  have v0 : 0 ≤ V := by rw [hV]; exact Int.emod_nonneg _ (by omega)
  have v1 : V < LL := by rw [hV]; exact Int.emod_lt_of_pos _ hL.2
  rw [e0, ← hX, ← hV] at i4
  have cs := cut_step X n
  rw [← hV] at cs
  by_cases hcmp : LL ≤ 2 * V + X / 2 ^ n % 2
  · have hk : roundB Try.prog RT 300 5 (loopAt 0 modB) Mod32T [true,true] none [.cmp 65 .geq (.v 0) (.l 0), .cond 65 true, .bin 66 .quo .i64 (.v 0) (.l 8), .idx 66 32, .sel 67 [.v 1, .v 2, .v 3, .v 4, .v 5, .v 6, .v 7, .v 8, .v 9, .v 10, .v 11, .v 12, .v 13, .v 14, .v 15, .v 16, .v 17, .v 18, .v 19, .v 20, .v 21, .v 22, .v 23, .v 24, .v 25, .v 26, .v 27, .v 28, .v 29, .v 30, .v 31, .v 32] 66, .bin 68 .rem .i64 (.v 0) (.l 8), .conv 69 .u64 (.v 68), .idx 69 1000000, .shv 70 false .u8 (.v 67) 69, .bin 71 .and .u8 (.v 70) (.l 1), .bin 72 .shr .u8 (.v 33) (.l 7), .bin 73 .or .u8 (.v 72) (.l 0), .bin 74 .shl .u8 (.v 33) (.l 1), .bin 75 .or .u8 (.v 74) (.v 71), .bin 76 .shr .u8 (.v 34) (.l 7), .bin 77 .or .u8 (.v 76) (.l 0), .bin 78 .shl .u8 (.v 34) (.l 1), .bin 79 .or .u8 (.v 78) (.v 73), .bin 80 .shr .u8 (.v 35) (.l 7), .bin 81 .or .u8 (.v 80) (.l 0), .bin 82 .shl .u8 (.v 35) (.l 1), .bin 83 .or .u8 (.v 82) (.v 77), .bin 84 .shr .u8 (.v 36) (.l 7), .bin 85 .or .u8 (.v 84) (.l 0), .bin 86 .shl .u8 (.v 36) (.l 1), .bin 87 .or .u8 (.v 86) (.v 81), .bin 88 .shr .u8 (.v 37) (.l 7), .bin 89 .or .u8 (.v 88) (.l 0), .bin 90 .shl .u8 (.v 37) (.l 1), .bin 91 .or .u8 (.v 90) (.v 85), .bin 92 .shr .u8 (.v 38) (.l 7), .bin 93 .or .u8 (.v 92) (.l 0), .bin 94 .shl .u8 (.v 38) (.l 1), .bin 95 .or .u8 (.v 94) (.v 89), .bin 96 .shr .u8 (.v 39) (.l 7), .bin 97 .or .u8 (.v 96) (.l 0), .bin 98 .shl .u8 (.v 39) (.l 1), .bin 99 .or .u8 (.v 98) (.v 93), .bin 100 .shr .u8 (.v 40) (.l 7), .bin 101 .or .u8 (.v 100) (.l 0), .bin 102 .shl .u8 (.v 40) (.l 1), .bin 103 .or .u8 (.v 102) (.v 97), .bin 104 .shr .u8 (.v 41) (.l 7), .bin 105 .or .u8 (.v 104) (.l 0), .bin 106 .shl .u8 (.v 41) (.l 1), .bin 107 .or .u8 (.v 106) (.v 101), .bin 108 .shr .u8 (.v 42) (.l 7), .bin 109 .or .u8 (.v 108) (.l 0), .bin 110 .shl .u8 (.v 42) (.l 1), .bin 111 .or .u8 (.v 110) (.v 105), .bin 112 .shr .u8 (.v 43) (.l 7), .bin 113 .or .u8 (.v 112) (.l 0), .bin 114 .shl .u8 (.v 43) (.l 1), .bin 115 .or .u8 (.v 114) (.v 109), .bin 116 .shr .u8 (.v 44) (.l 7), .bin 117 .or .u8 (.v 116) (.l 0), .bin 118 .shl .u8 (.v 44) (.l 1), .bin 119 .or .u8 (.v 118) (.v 113), .bin 120 .shr .u8 (.v 45) (.l 7), .bin 121 .or .u8 (.v 120) (.l 0), .bin 122 .shl .u8 (.v 45) (.l 1), .bin 123 .or .u8 (.v 122) (.v 117), .bin 124 .shr .u8 (.v 46) (.l 7), .bin 125 .or .u8 (.v 124) (.l 0), .bin 126 .shl .u8 (.v 46) (.l 1), .bin 127 .or .u8 (.v 126) (.v 121), .bin 128 .shr .u8 (.v 47) (.l 7), .bin 129 .or .u8 (.v 128) (.l 0), .bin 130 .shl .u8 (.v 47) (.l 1), .bin 131 .or .u8 (.v 130) (.v 125), .bin 132 .shr .u8 (.v 48) (.l 7), .bin 133 .or .u8 (.v 132) (.l 0), .bin 134 .shl .u8 (.v 48) (.l 1), .bin 135 .or .u8 (.v 134) (.v 129), .bin 136 .shr .u8 (.v 49) (.l 7), .bin 137 .or .u8 (.v 136) (.l 0), .bin 138 .shl .u8 (.v 49) (.l 1), .bin 139 .or .u8 (.v 138) (.v 133), .bin 140 .shr .u8 (.v 50) (.l 7), .bin 141 .or .u8 (.v 140) (.l 0), .bin 142 .shl .u8 (.v 50) (.l 1), .bin 143 .or .u8 (.v 142) (.v 137), .bin 144 .shr .u8 (.v 51) (.l 7), .bin 145 .or .u8 (.v 144) (.l 0), .bin 146 .shl .u8 (.v 51) (.l 1), .bin 147 .or .u8 (.v 146) (.v 141), .bin 148 .shr .u8 (.v 52) (.l 7), .bin 149 .or .u8 (.v 148) (.l 0), .bin 150 .shl .u8 (.v 52) (.l 1), .bin 151 .or .u8 (.v 150) (.v 145), .bin 152 .shr .u8 (.v 53) (.l 7), .bin 153 .or .u8 (.v 152) (.l 0), .bin 154 .shl .u8 (.v 53) (.l 1), .bin 155 .or .u8 (.v 154) (.v 149), .bin 156 .shr .u8 (.v 54) (.l 7), .bin 157 .or .u8 (.v 156) (.l 0), .bin 158 .shl .u8 (.v 54) (.l 1), .bin 159 .or .u8 (.v 158) (.v 153), .bin 160 .shr .u8 (.v 55) (.l 7), .bin 161 .or .u8 (.v 160) (.l 0), .bin 162 .shl .u8 (.v 55) (.l 1), .bin 163 .or .u8 (.v 162) (.v 157), .bin 164 .shr .u8 (.v 56) (.l 7), .bin 165 .or .u8 (.v 164) (.l 0), .bin 166 .shl .u8 (.v 56) (.l 1), .bin 167 .or .u8 (.v 166) (.v 161), .bin 168 .shr .u8 (.v 57) (.l 7), .bin 169 .or .u8 (.v 168) (.l 0), .bin 170 .shl .u8 (.v 57) (.l 1), .bin 171 .or .u8 (.v 170) (.v 165), .bin 172 .shr .u8 (.v 58) (.l 7), .bin 173 .or .u8 (.v 172) (.l 0), .bin 174 .shl .u8 (.v 58) (.l 1), .bin 175 .or .u8 (.v 174) (.v 169), .bin 176 .shr .u8 (.v 59) (.l 7), .bin 177 .or .u8 (.v 176) (.l 0), .bin 178 .shl .u8 (.v 59) (.l 1), .bin 179 .or .u8 (.v 178) (.v 173), .bin 180 .shr .u8 (.v 60) (.l 7), .bin 181 .or .u8 (.v 180) (.l 0), .bin 182 .shl .u8 (.v 60) (.l 1), .bin 183 .or .u8 (.v 182) (.v 177), .bin 184 .shr .u8 (.v 61) (.l 7), .bin 185 .or .u8 (.v 184) (.l 0), .bin 186 .shl .u8 (.v 61) (.l 1), .bin 187 .or .u8 (.v 186) (.v 181), .bin 188 .shr .u8 (.v 62) (.l 7), .bin 189 .or .u8 (.v 188) (.l 0), .bin 190 .shl .u8 (.v 62) (.l 1), .bin 191 .or .u8 (.v 190) (.v 185), .bin 192 .shr .u8 (.v 63) (.l 7), .bin 193 .or .u8 (.v 192) (.l 0), .bin 194 .shl .u8 (.v 63) (.l 1), .bin 195 .or .u8 (.v 194) (.v 189), .bin 196 .shr .u8 (.v 64) (.l 7), .bin 197 .or .u8 (.v 196) (.l 0), .bin 198 .shl .u8 (.v 64) (.l 1), .bin 199 .or .u8 (.v 198) (.v 193), .need 50 [[.v 75, .v 79, .v 83, .v 87, .v 91, .v 95, .v 99, .v 103, .v 107, .v 111, .v 115, .v 119, .v 123, .v 127, .v 131, .v 135, .v 139, .v 143, .v 147, .v 151, .v 155, .v 159, .v 163, .v 167, .v 171, .v 175, .v 179, .v 183, .v 187, .v 191, .v 195, .v 199], [.l 237, .l 211, .l 245, .l 92, .l 26, .l 99, .l 18, .l 88, .l 214, .l 156, .l 247, .l 162, .l 222, .l 249, .l 222, .l 20, .l 0, .l 0, .l 0, .l 0, .l 0, .l 0, .l 0, .l 0, .l 0, .l 0, .l 0, .l 0, .l 0, .l 0, .l 0, .l 16]], .call 200 50 [[.v 75, .v 79, .v 83, .v 87, .v 91, .v 95, .v 99, .v 103, .v 107, .v 111, .v 115, .v 119, .v 123, .v 127, .v 131, .v 135, .v 139, .v 143, .v 147, .v 151, .v 155, .v 159, .v 163, .v 167, .v 171, .v 175, .v 179, .v 183, .v 187, .v 191, .v 195, .v 199], [.l 237, .l 211, .l 245, .l 92, .l 26, .l 99, .l 18, .l 88, .l 214, .l 156, .l 247, .l 162, .l 222, .l 249, .l 222, .l 20, .l 0, .l 0, .l 0, .l 0, .l 0, .l 0, .l 0, .l 0, .l 0, .l 0, .l 0, .l 0, .l 0, .l 0, .l 0, .l 16]] 1, .cond 200 true, .need 51 [[.v 75, .v 79, .v 83, .v 87, .v 91, .v 95, .v 99, .v 103, .v 107, .v 111, .v 115, .v 119, .v 123, .v 127, .v 131, .v 135, .v 139, .v 143, .v 147, .v 151, .v 155, .v 159, .v 163, .v 167, .v 171, .v 175, .v 179, .v 183, .v 187, .v 191, .v 195, .v 199], [.l 237, .l 211, .l 245, .l 92, .l 26, .l 99, .l 18, .l 88, .l 214, .l 156, .l 247, .l 162, .l 222, .l 249, .l 222, .l 20, .l 0, .l 0, .l 0, .l 0, .l 0, .l 0, .l 0, .l 0, .l 0, .l 0, .l 0, .l 0, .l 0, .l 0, .l 0, .l 16]], .call 201 51 [[.v 75, .v 79, .v 83, .v 87, .v 91, .v 95, .v 99, .v 103, .v 107, .v 111, .v 115, .v 119, .v 123, .v 127, .v 131, .v 135, .v 139, .v 143, .v 147, .v 151, .v 155, .v 159, .v 163, .v 167, .v 171, .v 175, .v 179, .v 183, .v 187, .v 191, .v 195, .v 199], [.l 237, .l 211, .l 245, .l 92, .l 26, .l 99, .l 18, .l 88, .l 214, .l 156, .l 247, .l 162, .l 222, .l 249, .l 222, .l 20, .l 0, .l 0, .l 0, .l 0, .l 0, .l 0, .l 0, .l 0, .l 0, .l 0, .l 0, .l 0, .l 0, .l 0, .l 0, .l 16]] 32, .bin 233 .sub .i64 (.v 0) (.l 1)] [.v 233, .v 1, .v 2, .v 3, .v 4, .v 5, .v 6, .v 7, .v 8, .v 9, .v 10, .v 11, .v 12, .v 13, .v 14, .v 15, .v 16, .v 17, .v 18, .v 19, .v 20, .v 21, .v 22, .v 23, .v 24, .v 25, .v 26, .v 27, .v 28, .v 29, .v 30, .v 31, .v 32, .v 201, .v 202, .v 203, .v 204, .v 205, .v 206, .v 207, .v 208, .v 209, .v 210, .v 211, .v 212, .v 213, .v 214, .v 215, .v 216, .v 217, .v 218, .v 219, .v 220, .v 221, .v 222, .v 223, .v 224, .v 225, .v 226, .v 227, .v 228, .v 229, .v 230, .v 231, .v 232] = true := by kernel_rfl
    rw [hb] at hk
    refine ⟨.normal, _, RoundEnd.of (e := none) hk fun ρ hρ hd => ?_, .inl ⟨rfl, Mod32_after hI hge rfl⟩⟩
    have r0 : ρ 0 = (n : Int) := (hρ 0 (by decide)).trans hn
    simp only [D_nil, D_add, D_sub, D_mul, D_and, D_or, D_xor, D_shl, D_shr, D_andNot, D_quo, D_rem, D_add_i64, D_sub_i64, D_mul_i64, D_add_u32, D_sub_u32, D_mul_u32, D_add_u8, D_sub_u8, D_mul_u8, D_eql, D_neq, D_lss, D_leq, D_gtr, D_geq, D_not, D_conv, D_eqs, D_call, D_cond, D_need, D_idx, D_sel, D_upd, D_shv, D_beq, List.map_cons, List.map_nil, Ref.den, r0] at hd
    obtain ⟨h65, h66, h67, h68, h69, h70, h71, h72, h73, h74, h75, h76, h77, h78, h79, h80, h81, h82, h83, h84, h85, h86, h87, h88, h89, h90, h91, h92, h93, h94, h95, h96, h97, h98, h99, h100, h101, h102, h103, h104, h105, h106, h107, h108, h109, h110, h111, h112, h113, h114, h115, h116, h117, h118, h119, h120, h121, h122, h123, h124, h125, h126, h127, h128, h129, h130, h131, h132, h133, h134, h135, h136, h137, h138, h139, h140, h141, h142, h143, h144, h145, h146, h147, h148, h149, h150, h151, h152, h153, h154, h155, h156, h157, h158, h159, h160, h161, h162, h163, h164, h165, h166, h167, h168, h169, h170, h171, h172, h173, h174, h175, h176, h177, h178, h179, h180, h181, h182, h183, h184, h185, h186, h187, h188, h189, h190, h191, h192, h193, h194, h195, h196, h197, h198, h199, h200, h201, h233, -⟩ := hd
    have e1 : ρ 66 = (n : Int) / 8 := i_quo 8 (by decide) (by omega) (by omega) rfl h66
    have e3 : ρ 68 = (n : Int) % 8 := i_rem 8 (by decide) (by omega) rfl h68
    have e4 : ρ 69 = ρ 68 := by rw [h69, c_u64]; omega
    obtain ⟨hbit, hval⟩ := Mod32_mid hT hI hn (fun i hi => hρ i hi) e1 h67 e3 e4 h70 h71
    rw [← hX, ← hV] at hval
    have kge := bit_true h65 (decide_eq_true (show (0 : Int) ≤ n by omega))
    have sr : seg ρ 33 32 = dg 256 32 V := (seg_congr fun i hi => hρ _ (by show 33 + i < 65; omega)).trans i4
    have dR : Dig 256 (seg ρ 33 32) := by rw [sr]; exact dg_dig (by decide) _ _
    have vR : dv 256 (seg ρ 33 32) = V := by rw [sr]; exact dv_dg_of (by decide) v0 (by omega)
    have dg_ : ∀ i, i < 32 → 0 ≤ ρ (33 + i) ∧ ρ (33 + i) < 256 := fun i hi => by
      have := dR.d _ (getD_mem (l := seg ρ 33 32) (i := i) (by rw [seg_len]; exact hi)); rwa [seg_get hi] at this
    have p0 := dbl_step (dg_ 0 (by decide)) hbit h72 h73 h74 h75
    have p1 := dbl_step (dg_ 1 (by decide)) p0.1 h76 h77 h78 h79
    have p2 := dbl_step (dg_ 2 (by decide)) p1.1 h80 h81 h82 h83
    have p3 := dbl_step (dg_ 3 (by decide)) p2.1 h84 h85 h86 h87
    have p4 := dbl_step (dg_ 4 (by decide)) p3.1 h88 h89 h90 h91
    have p5 := dbl_step (dg_ 5 (by decide)) p4.1 h92 h93 h94 h95
    have p6 := dbl_step (dg_ 6 (by decide)) p5.1 h96 h97 h98 h99
    have p7 := dbl_step (dg_ 7 (by decide)) p6.1 h100 h101 h102 h103
    have p8 := dbl_step (dg_ 8 (by decide)) p7.1 h104 h105 h106 h107
    have p9 := dbl_step (dg_ 9 (by decide)) p8.1 h108 h109 h110 h111
    have p10 := dbl_step (dg_ 10 (by decide)) p9.1 h112 h113 h114 h115
    have p11 := dbl_step (dg_ 11 (by decide)) p10.1 h116 h117 h118 h119
    have p12 := dbl_step (dg_ 12 (by decide)) p11.1 h120 h121 h122 h123
    have p13 := dbl_step (dg_ 13 (by decide)) p12.1 h124 h125 h126 h127
    have p14 := dbl_step (dg_ 14 (by decide)) p13.1 h128 h129 h130 h131
    have p15 := dbl_step (dg_ 15 (by decide)) p14.1 h132 h133 h134 h135
    have p16 := dbl_step (dg_ 16 (by decide)) p15.1 h136 h137 h138 h139
    have p17 := dbl_step (dg_ 17 (by decide)) p16.1 h140 h141 h142 h143
    have p18 := dbl_step (dg_ 18 (by decide)) p17.1 h144 h145 h146 h147
    have p19 := dbl_step (dg_ 19 (by decide)) p18.1 h148 h149 h150 h151
    have p20 := dbl_step (dg_ 20 (by decide)) p19.1 h152 h153 h154 h155
    have p21 := dbl_step (dg_ 21 (by decide)) p20.1 h156 h157 h158 h159
    have p22 := dbl_step (dg_ 22 (by decide)) p21.1 h160 h161 h162 h163
    have p23 := dbl_step (dg_ 23 (by decide)) p22.1 h164 h165 h166 h167
    have p24 := dbl_step (dg_ 24 (by decide)) p23.1 h168 h169 h170 h171
    have p25 := dbl_step (dg_ 25 (by decide)) p24.1 h172 h173 h174 h175
    have p26 := dbl_step (dg_ 26 (by decide)) p25.1 h176 h177 h178 h179
    have p27 := dbl_step (dg_ 27 (by decide)) p26.1 h180 h181 h182 h183
    have p28 := dbl_step (dg_ 28 (by decide)) p27.1 h184 h185 h186 h187
    have p29 := dbl_step (dg_ 29 (by decide)) p28.1 h188 h189 h190 h191
    have p30 := dbl_step (dg_ 30 (by decide)) p29.1 h192 h193 h194 h195
    have p31 := dbl_step (dg_ 31 (by decide)) p30.1 h196 h197 h198 h199
    have sd : [ρ 75, ρ 79, ρ 83, ρ 87, ρ 91, ρ 95, ρ 99, ρ 103, ρ 107, ρ 111, ρ 115, ρ 119, ρ 123, ρ 127, ρ 131, ρ 135, ρ 139, ρ 143, ρ 147, ρ 151, ρ 155, ρ 159, ρ 163, ρ 167, ρ 171, ρ 175, ρ 179, ρ 183, ρ 187, ρ 191, ρ 195, ρ 199] = dbl (ρ 71) (seg ρ 33 32) :=
      dbl_cons p0.2.1 p0.2.2 (dbl_cons p1.2.1 p1.2.2 (dbl_cons p2.2.1 p2.2.2 (dbl_cons p3.2.1 p3.2.2 (dbl_cons p4.2.1 p4.2.2 (dbl_cons p5.2.1 p5.2.2 (dbl_cons p6.2.1 p6.2.2 (dbl_cons p7.2.1 p7.2.2 (dbl_cons p8.2.1 p8.2.2 (dbl_cons p9.2.1 p9.2.2 (dbl_cons p10.2.1 p10.2.2 (dbl_cons p11.2.1 p11.2.2 (dbl_cons p12.2.1 p12.2.2 (dbl_cons p13.2.1 p13.2.2 (dbl_cons p14.2.1 p14.2.2 (dbl_cons p15.2.1 p15.2.2 (dbl_cons p16.2.1 p16.2.2 (dbl_cons p17.2.1 p17.2.2 (dbl_cons p18.2.1 p18.2.2 (dbl_cons p19.2.1 p19.2.2 (dbl_cons p20.2.1 p20.2.2 (dbl_cons p21.2.1 p21.2.2 (dbl_cons p22.2.1 p22.2.2 (dbl_cons p23.2.1 p23.2.2 (dbl_cons p24.2.1 p24.2.2 (dbl_cons p25.2.1 p25.2.2 (dbl_cons p26.2.1 p26.2.2 (dbl_cons p27.2.1 p27.2.2 (dbl_cons p28.2.1 p28.2.2 (dbl_cons p29.2.1 p29.2.2 (dbl_cons p30.2.1 p30.2.2 (dbl_cons p31.2.1 p31.2.2 (rfl))))))))))))))))))))))))))))))))
    obtain ⟨vD, dD⟩ := dbl_val (c := ρ 71) (l := seg ρ 33 32) (seg_len _ _ _) hbit dR (by rw [vR]; exact v1)
    rw [vR, hval] at vD
    have e50 : ρ 200 = b2i (decide (LL ≤ 2 * V + X / 2 ^ n % 2)) := by
      rw [h200 0 (by decide)]
      show b2i (decide (dv 256 _ ≤ dv 256 [ρ 75, ρ 79, ρ 83, ρ 87, ρ 91, ρ 95, ρ 99, ρ 103, ρ 107, ρ 111, ρ 115, ρ 119, ρ 123, ρ 127, ρ 131, ρ 135, ρ 139, ρ 143, ρ 147, ρ 151, ρ 155, ρ 159, ρ 163, ρ 167, ρ 171, ρ 175, ρ 179, ρ 183, ρ 187, ρ 191, ρ 195, ρ 199])) = _
      rw [sd, vD, order_dv]
    rw [decide_eq_true hcmp] at e50
    have s51 : seg ρ 201 32 = dg 256 32 (X / 2 ^ n % LL) := seg_of (fun i hi => by
      rw [h201 i hi]
      show (dg 256 32 (dv 256 [ρ 75, ρ 79, ρ 83, ρ 87, ρ 91, ρ 95, ρ 99, ρ 103, ρ 107, ρ 111, ρ 115, ρ 119, ρ 123, ρ 127, ρ 131, ρ 135, ρ 139, ρ 143, ρ 147, ρ 151, ρ 155, ρ 159, ρ 163, ρ 167, ρ 171, ρ 175, ρ 179, ρ 183, ρ 187, ρ 191, ρ 195, ρ 199] - dv 256 _)).getD i 0 = _
      rw [sd, vD, order_dv, ← cs, cutZ, if_neg (by omega)]) (dg_len _ _ _)
    refine ⟨?_, fun i hi => ?_⟩
    · simp only [G_nil, G_bin, G_cmp, G_not, G_conv, G_eqs, G_call, G_cond, G_need, G_idx, G_sel, G_upd, G_shv, G_beq, List.map_cons, List.map_nil, Ref.den, r0]
      refine ⟨kge, ⟨?_, ?_⟩, ⟨?_, ?_⟩, trivial, bit_true e50 rfl, trivial, trivial⟩ <;> omega
    · show ([ρ 233] ++ (seg ρ 1 32 ++ seg ρ 201 32)).getD i 0 = _
      rw [s51, show seg ρ 1 32 = seg ρT 1 32 from seg_congr fun i hi => hρ _ (by show 1 + i < 65; omega), show ρ 233 = ρT 0 - 1 by rw [h233, IntKind.wrap_i64]; omega, e0', ← hX]
  · have hk : roundB Try.prog RT 300 5 (loopAt 0 modB) Mod32T [true,false] none [.cmp 65 .geq (.v 0) (.l 0), .cond 65 true, .bin 66 .quo .i64 (.v 0) (.l 8), .idx 66 32, .sel 67 [.v 1, .v 2, .v 3, .v 4, .v 5, .v 6, .v 7, .v 8, .v 9, .v 10, .v 11, .v 12, .v 13, .v 14, .v 15, .v 16, .v 17, .v 18, .v 19, .v 20, .v 21, .v 22, .v 23, .v 24, .v 25, .v 26, .v 27, .v 28, .v 29, .v 30, .v 31, .v 32] 66, .bin 68 .rem .i64 (.v 0) (.l 8), .conv 69 .u64 (.v 68), .idx 69 1000000, .shv 70 false .u8 (.v 67) 69, .bin 71 .and .u8 (.v 70) (.l 1), .bin 72 .shr .u8 (.v 33) (.l 7), .bin 73 .or .u8 (.v 72) (.l 0), .bin 74 .shl .u8 (.v 33) (.l 1), .bin 75 .or .u8 (.v 74) (.v 71), .bin 76 .shr .u8 (.v 34) (.l 7), .bin 77 .or .u8 (.v 76) (.l 0), .bin 78 .shl .u8 (.v 34) (.l 1), .bin 79 .or .u8 (.v 78) (.v 73), .bin 80 .shr .u8 (.v 35) (.l 7), .bin 81 .or .u8 (.v 80) (.l 0), .bin 82 .shl .u8 (.v 35) (.l 1), .bin 83 .or .u8 (.v 82) (.v 77), .bin 84 .shr .u8 (.v 36) (.l 7), .bin 85 .or .u8 (.v 84) (.l 0), .bin 86 .shl .u8 (.v 36) (.l 1), .bin 87 .or .u8 (.v 86) (.v 81), .bin 88 .shr .u8 (.v 37) (.l 7), .bin 89 .or .u8 (.v 88) (.l 0), .bin 90 .shl .u8 (.v 37) (.l 1), .bin 91 .or .u8 (.v 90) (.v 85), .bin 92 .shr .u8 (.v 38) (.l 7), .bin 93 .or .u8 (.v 92) (.l 0), .bin 94 .shl .u8 (.v 38) (.l 1), .bin 95 .or .u8 (.v 94) (.v 89), .bin 96 .shr .u8 (.v 39) (.l 7), .bin 97 .or .u8 (.v 96) (.l 0), .bin 98 .shl .u8 (.v 39) (.l 1), .bin 99 .or .u8 (.v 98) (.v 93), .bin 100 .shr .u8 (.v 40) (.l 7), .bin 101 .or .u8 (.v 100) (.l 0), .bin 102 .shl .u8 (.v 40) (.l 1), .bin 103 .or .u8 (.v 102) (.v 97), .bin 104 .shr .u8 (.v 41) (.l 7), .bin 105 .or .u8 (.v 104) (.l 0), .bin 106 .shl .u8 (.v 41) (.l 1), .bin 107 .or .u8 (.v 106) (.v 101), .bin 108 .shr .u8 (.v 42) (.l 7), .bin 109 .or .u8 (.v 108) (.l 0), .bin 110 .shl .u8 (.v 42) (.l 1), .bin 111 .or .u8 (.v 110) (.v 105), .bin 112 .shr .u8 (.v 43) (.l 7), .bin 113 .or .u8 (.v 112) (.l 0), .bin 114 .shl .u8 (.v 43) (.l 1), .bin 115 .or .u8 (.v 114) (.v 109), .bin 116 .shr .u8 (.v 44) (.l 7), .bin 117 .or .u8 (.v 116) (.l 0), .bin 118 .shl .u8 (.v 44) (.l 1), .bin 119 .or .u8 (.v 118) (.v 113), .bin 120 .shr .u8 (.v 45) (.l 7), .bin 121 .or .u8 (.v 120) (.l 0), .bin 122 .shl .u8 (.v 45) (.l 1), .bin 123 .or .u8 (.v 122) (.v 117), .bin 124 .shr .u8 (.v 46) (.l 7), .bin 125 .or .u8 (.v 124) (.l 0), .bin 126 .shl .u8 (.v 46) (.l 1), .bin 127 .or .u8 (.v 126) (.v 121), .bin 128 .shr .u8 (.v 47) (.l 7), .bin 129 .or .u8 (.v 128) (.l 0), .bin 130 .shl .u8 (.v 47) (.l 1), .bin 131 .or .u8 (.v 130) (.v 125), .bin 132 .shr .u8 (.v 48) (.l 7), .bin 133 .or .u8 (.v 132) (.l 0), .bin 134 .shl .u8 (.v 48) (.l 1), .bin 135 .or .u8 (.v 134) (.v 129), .bin 136 .shr .u8 (.v 49) (.l 7), .bin 137 .or .u8 (.v 136) (.l 0), .bin 138 .shl .u8 (.v 49) (.l 1), .bin 139 .or .u8 (.v 138) (.v 133), .bin 140 .shr .u8 (.v 50) (.l 7), .bin 141 .or .u8 (.v 140) (.l 0), .bin 142 .shl .u8 (.v 50) (.l 1), .bin 143 .or .u8 (.v 142) (.v 137), .bin 144 .shr .u8 (.v 51) (.l 7), .bin 145 .or .u8 (.v 144) (.l 0), .bin 146 .shl .u8 (.v 51) (.l 1), .bin 147 .or .u8 (.v 146) (.v 141), .bin 148 .shr .u8 (.v 52) (.l 7), .bin 149 .or .u8 (.v 148) (.l 0), .bin 150 .shl .u8 (.v 52) (.l 1), .bin 151 .or .u8 (.v 150) (.v 145), .bin 152 .shr .u8 (.v 53) (.l 7), .bin 153 .or .u8 (.v 152) (.l 0), .bin 154 .shl .u8 (.v 53) (.l 1), .bin 155 .or .u8 (.v 154) (.v 149), .bin 156 .shr .u8 (.v 54) (.l 7), .bin 157 .or .u8 (.v 156) (.l 0), .bin 158 .shl .u8 (.v 54) (.l 1), .bin 159 .or .u8 (.v 158) (.v 153), .bin 160 .shr .u8 (.v 55) (.l 7), .bin 161 .or .u8 (.v 160) (.l 0), .bin 162 .shl .u8 (.v 55) (.l 1), .bin 163 .or .u8 (.v 162) (.v 157), .bin 164 .shr .u8 (.v 56) (.l 7), .bin 165 .or .u8 (.v 164) (.l 0), .bin 166 .shl .u8 (.v 56) (.l 1), .bin 167 .or .u8 (.v 166) (.v 161), .bin 168 .shr .u8 (.v 57) (.l 7), .bin 169 .or .u8 (.v 168) (.l 0), .bin 170 .shl .u8 (.v 57) (.l 1), .bin 171 .or .u8 (.v 170) (.v 165), .bin 172 .shr .u8 (.v 58) (.l 7), .bin 173 .or .u8 (.v 172) (.l 0), .bin 174 .shl .u8 (.v 58) (.l 1), .bin 175 .or .u8 (.v 174) (.v 169), .bin 176 .shr .u8 (.v 59) (.l 7), .bin 177 .or .u8 (.v 176) (.l 0), .bin 178 .shl .u8 (.v 59) (.l 1), .bin 179 .or .u8 (.v 178) (.v 173), .bin 180 .shr .u8 (.v 60) (.l 7), .bin 181 .or .u8 (.v 180) (.l 0), .bin 182 .shl .u8 (.v 60) (.l 1), .bin 183 .or .u8 (.v 182) (.v 177), .bin 184 .shr .u8 (.v 61) (.l 7), .bin 185 .or .u8 (.v 184) (.l 0), .bin 186 .shl .u8 (.v 61) (.l 1), .bin 187 .or .u8 (.v 186) (.v 181), .bin 188 .shr .u8 (.v 62) (.l 7), .bin 189 .or .u8 (.v 188) (.l 0), .bin 190 .shl .u8 (.v 62) (.l 1), .bin 191 .or .u8 (.v 190) (.v 185), .bin 192 .shr .u8 (.v 63) (.l 7), .bin 193 .or .u8 (.v 192) (.l 0), .bin 194 .shl .u8 (.v 63) (.l 1), .bin 195 .or .u8 (.v 194) (.v 189), .bin 196 .shr .u8 (.v 64) (.l 7), .bin 197 .or .u8 (.v 196) (.l 0), .bin 198 .shl .u8 (.v 64) (.l 1), .bin 199 .or .u8 (.v 198) (.v 193), .need 50 [[.v 75, .v 79, .v 83, .v 87, .v 91, .v 95, .v 99, .v 103, .v 107, .v 111, .v 115, .v 119, .v 123, .v 127, .v 131, .v 135, .v 139, .v 143, .v 147, .v 151, .v 155, .v 159, .v 163, .v 167, .v 171, .v 175, .v 179, .v 183, .v 187, .v 191, .v 195, .v 199], [.l 237, .l 211, .l 245, .l 92, .l 26, .l 99, .l 18, .l 88, .l 214, .l 156, .l 247, .l 162, .l 222, .l 249, .l 222, .l 20, .l 0, .l 0, .l 0, .l 0, .l 0, .l 0, .l 0, .l 0, .l 0, .l 0, .l 0, .l 0, .l 0, .l 0, .l 0, .l 16]], .call 200 50 [[.v 75, .v 79, .v 83, .v 87, .v 91, .v 95, .v 99, .v 103, .v 107, .v 111, .v 115, .v 119, .v 123, .v 127, .v 131, .v 135, .v 139, .v 143, .v 147, .v 151, .v 155, .v 159, .v 163, .v 167, .v 171, .v 175, .v 179, .v 183, .v 187, .v 191, .v 195, .v 199], [.l 237, .l 211, .l 245, .l 92, .l 26, .l 99, .l 18, .l 88, .l 214, .l 156, .l 247, .l 162, .l 222, .l 249, .l 222, .l 20, .l 0, .l 0, .l 0, .l 0, .l 0, .l 0, .l 0, .l 0, .l 0, .l 0, .l 0, .l 0, .l 0, .l 0, .l 0, .l 16]] 1, .cond 200 false, .bin 201 .sub .i64 (.v 0) (.l 1)] [.v 201, .v 1, .v 2, .v 3, .v 4, .v 5, .v 6, .v 7, .v 8, .v 9, .v 10, .v 11, .v 12, .v 13, .v 14, .v 15, .v 16, .v 17, .v 18, .v 19, .v 20, .v 21, .v 22, .v 23, .v 24, .v 25, .v 26, .v 27, .v 28, .v 29, .v 30, .v 31, .v 32, .v 75, .v 79, .v 83, .v 87, .v 91, .v 95, .v 99, .v 103, .v 107, .v 111, .v 115, .v 119, .v 123, .v 127, .v 131, .v 135, .v 139, .v 143, .v 147, .v 151, .v 155, .v 159, .v 163, .v 167, .v 171, .v 175, .v 179, .v 183, .v 187, .v 191, .v 195, .v 199] = true := by kernel_rfl
    rw [hb] at hk
    refine ⟨.normal, _, RoundEnd.of (e := none) hk fun ρ hρ hd => ?_, .inl ⟨rfl, Mod32_after hI hge rfl⟩⟩
    have r0 : ρ 0 = (n : Int) := (hρ 0 (by decide)).trans hn
    simp only [D_nil, D_add, D_sub, D_mul, D_and, D_or, D_xor, D_shl, D_shr, D_andNot, D_quo, D_rem, D_add_i64, D_sub_i64, D_mul_i64, D_add_u32, D_sub_u32, D_mul_u32, D_add_u8, D_sub_u8, D_mul_u8, D_eql, D_neq, D_lss, D_leq, D_gtr, D_geq, D_not, D_conv, D_eqs, D_call, D_cond, D_need, D_idx, D_sel, D_upd, D_shv, D_beq, List.map_cons, List.map_nil, Ref.den, r0] at hd
    obtain ⟨h65, h66, h67, h68, h69, h70, h71, h72, h73, h74, h75, h76, h77, h78, h79, h80, h81, h82, h83, h84, h85, h86, h87, h88, h89, h90, h91, h92, h93, h94, h95, h96, h97, h98, h99, h100, h101, h102, h103, h104, h105, h106, h107, h108, h109, h110, h111, h112, h113, h114, h115, h116, h117, h118, h119, h120, h121, h122, h123, h124, h125, h126, h127, h128, h129, h130, h131, h132, h133, h134, h135, h136, h137, h138, h139, h140, h141, h142, h143, h144, h145, h146, h147, h148, h149, h150, h151, h152, h153, h154, h155, h156, h157, h158, h159, h160, h161, h162, h163, h164, h165, h166, h167, h168, h169, h170, h171, h172, h173, h174, h175, h176, h177, h178, h179, h180, h181, h182, h183, h184, h185, h186, h187, h188, h189, h190, h191, h192, h193, h194, h195, h196, h197, h198, h199, h200, h201, -⟩ := hd
    have e1 : ρ 66 = (n : Int) / 8 := i_quo 8 (by decide) (by omega) (by omega) rfl h66
    have e3 : ρ 68 = (n : Int) % 8 := i_rem 8 (by decide) (by omega) rfl h68
    have e4 : ρ 69 = ρ 68 := by rw [h69, c_u64]; omega
    obtain ⟨hbit, hval⟩ := Mod32_mid hT hI hn (fun i hi => hρ i hi) e1 h67 e3 e4 h70 h71
    rw [← hX, ← hV] at hval
    have kge := bit_true h65 (decide_eq_true (show (0 : Int) ≤ n by omega))
    have sr : seg ρ 33 32 = dg 256 32 V := (seg_congr fun i hi => hρ _ (by show 33 + i < 65; omega)).trans i4
    have dR : Dig 256 (seg ρ 33 32) := by rw [sr]; exact dg_dig (by decide) _ _
    have vR : dv 256 (seg ρ 33 32) = V := by rw [sr]; exact dv_dg_of (by decide) v0 (by omega)
    have dg_ : ∀ i, i < 32 → 0 ≤ ρ (33 + i) ∧ ρ (33 + i) < 256 := fun i hi => by
      have := dR.d _ (getD_mem (l := seg ρ 33 32) (i := i) (by rw [seg_len]; exact hi)); rwa [seg_get hi] at this
    have p0 := dbl_step (dg_ 0 (by decide)) hbit h72 h73 h74 h75
    have p1 := dbl_step (dg_ 1 (by decide)) p0.1 h76 h77 h78 h79
    have p2 := dbl_step (dg_ 2 (by decide)) p1.1 h80 h81 h82 h83
    have p3 := dbl_step (dg_ 3 (by decide)) p2.1 h84 h85 h86 h87
    have p4 := dbl_step (dg_ 4 (by decide)) p3.1 h88 h89 h90 h91
    have p5 := dbl_step (dg_ 5 (by decide)) p4.1 h92 h93 h94 h95
    have p6 := dbl_step (dg_ 6 (by decide)) p5.1 h96 h97 h98 h99
    have p7 := dbl_step (dg_ 7 (by decide)) p6.1 h100 h101 h102 h103
    have p8 := dbl_step (dg_ 8 (by decide)) p7.1 h104 h105 h106 h107
    have p9 := dbl_step (dg_ 9 (by decide)) p8.1 h108 h109 h110 h111
    have p10 := dbl_step (dg_ 10 (by decide)) p9.1 h112 h113 h114 h115
    have p11 := dbl_step (dg_ 11 (by decide)) p10.1 h116 h117 h118 h119
    have p12 := dbl_step (dg_ 12 (by decide)) p11.1 h120 h121 h122 h123
    have p13 := dbl_step (dg_ 13 (by decide)) p12.1 h124 h125 h126 h127
    have p14 := dbl_step (dg_ 14 (by decide)) p13.1 h128 h129 h130 h131
    have p15 := dbl_step (dg_ 15 (by decide)) p14.1 h132 h133 h134 h135
    have p16 := dbl_step (dg_ 16 (by decide)) p15.1 h136 h137 h138 h139
    have p17 := dbl_step (dg_ 17 (by decide)) p16.1 h140 h141 h142 h143
    have p18 := dbl_step (dg_ 18 (by decide)) p17.1 h144 h145 h146 h147
    have p19 := dbl_step (dg_ 19 (by decide)) p18.1 h148 h149 h150 h151
    have p20 := dbl_step (dg_ 20 (by decide)) p19.1 h152 h153 h154 h155
    have p21 := dbl_step (dg_ 21 (by decide)) p20.1 h156 h157 h158 h159
    have p22 := dbl_step (dg_ 22 (by decide)) p21.1 h160 h161 h162 h163
    have p23 := dbl_step (dg_ 23 (by decide)) p22.1 h164 h165 h166 h167
    have p24 := dbl_step (dg_ 24 (by decide)) p23.1 h168 h169 h170 h171
    have p25 := dbl_step (dg_ 25 (by decide)) p24.1 h172 h173 h174 h175
    have p26 := dbl_step (dg_ 26 (by decide)) p25.1 h176 h177 h178 h179
    have p27 := dbl_step (dg_ 27 (by decide)) p26.1 h180 h181 h182 h183
    have p28 := dbl_step (dg_ 28 (by decide)) p27.1 h184 h185 h186 h187
    have p29 := dbl_step (dg_ 29 (by decide)) p28.1 h188 h189 h190 h191
    have p30 := dbl_step (dg_ 30 (by decide)) p29.1 h192 h193 h194 h195
    have p31 := dbl_step (dg_ 31 (by decide)) p30.1 h196 h197 h198 h199
    have sd : [ρ 75, ρ 79, ρ 83, ρ 87, ρ 91, ρ 95, ρ 99, ρ 103, ρ 107, ρ 111, ρ 115, ρ 119, ρ 123, ρ 127, ρ 131, ρ 135, ρ 139, ρ 143, ρ 147, ρ 151, ρ 155, ρ 159, ρ 163, ρ 167, ρ 171, ρ 175, ρ 179, ρ 183, ρ 187, ρ 191, ρ 195, ρ 199] = dbl (ρ 71) (seg ρ 33 32) :=
      dbl_cons p0.2.1 p0.2.2 (dbl_cons p1.2.1 p1.2.2 (dbl_cons p2.2.1 p2.2.2 (dbl_cons p3.2.1 p3.2.2 (dbl_cons p4.2.1 p4.2.2 (dbl_cons p5.2.1 p5.2.2 (dbl_cons p6.2.1 p6.2.2 (dbl_cons p7.2.1 p7.2.2 (dbl_cons p8.2.1 p8.2.2 (dbl_cons p9.2.1 p9.2.2 (dbl_cons p10.2.1 p10.2.2 (dbl_cons p11.2.1 p11.2.2 (dbl_cons p12.2.1 p12.2.2 (dbl_cons p13.2.1 p13.2.2 (dbl_cons p14.2.1 p14.2.2 (dbl_cons p15.2.1 p15.2.2 (dbl_cons p16.2.1 p16.2.2 (dbl_cons p17.2.1 p17.2.2 (dbl_cons p18.2.1 p18.2.2 (dbl_cons p19.2.1 p19.2.2 (dbl_cons p20.2.1 p20.2.2 (dbl_cons p21.2.1 p21.2.2 (dbl_cons p22.2.1 p22.2.2 (dbl_cons p23.2.1 p23.2.2 (dbl_cons p24.2.1 p24.2.2 (dbl_cons p25.2.1 p25.2.2 (dbl_cons p26.2.1 p26.2.2 (dbl_cons p27.2.1 p27.2.2 (dbl_cons p28.2.1 p28.2.2 (dbl_cons p29.2.1 p29.2.2 (dbl_cons p30.2.1 p30.2.2 (dbl_cons p31.2.1 p31.2.2 (rfl))))))))))))))))))))))))))))))))
    obtain ⟨vD, dD⟩ := dbl_val (c := ρ 71) (l := seg ρ 33 32) (seg_len _ _ _) hbit dR (by rw [vR]; exact v1)
    rw [vR, hval] at vD
    have e50 : ρ 200 = b2i (decide (LL ≤ 2 * V + X / 2 ^ n % 2)) := by
      rw [h200 0 (by decide)]
      show b2i (decide (dv 256 _ ≤ dv 256 [ρ 75, ρ 79, ρ 83, ρ 87, ρ 91, ρ 95, ρ 99, ρ 103, ρ 107, ρ 111, ρ 115, ρ 119, ρ 123, ρ 127, ρ 131, ρ 135, ρ 139, ρ 143, ρ 147, ρ 151, ρ 155, ρ 159, ρ 163, ρ 167, ρ 171, ρ 175, ρ 179, ρ 183, ρ 187, ρ 191, ρ 195, ρ 199])) = _
      rw [sd, vD, order_dv]
    rw [decide_eq_false hcmp] at e50
    have s51 : [ρ 75, ρ 79, ρ 83, ρ 87, ρ 91, ρ 95, ρ 99, ρ 103, ρ 107, ρ 111, ρ 115, ρ 119, ρ 123, ρ 127, ρ 131, ρ 135, ρ 139, ρ 143, ρ 147, ρ 151, ρ 155, ρ 159, ρ 163, ρ 167, ρ 171, ρ 175, ρ 179, ρ 183, ρ 187, ρ 191, ρ 195, ρ 199] = dg 256 32 (X / 2 ^ n % LL) := by
      rw [sd, ← cs, cutZ, if_pos (by omega), ← vD]
      have := dg_dv (by decide) dD
      rw [dbl_len, seg_len] at this; exact this.symm
    refine ⟨?_, fun i hi => ?_⟩
    · simp only [G_nil, G_bin, G_cmp, G_not, G_conv, G_eqs, G_call, G_cond, G_need, G_idx, G_sel, G_upd, G_shv, G_beq, List.map_cons, List.map_nil, Ref.den, r0]
      refine ⟨kge, ⟨?_, ?_⟩, ⟨?_, ?_⟩, trivial, bit_false e50 rfl, trivial⟩ <;> omega
    · show ([ρ 201] ++ (seg ρ 1 32 ++ [ρ 75, ρ 79, ρ 83, ρ 87, ρ 91, ρ 95, ρ 99, ρ 103, ρ 107, ρ 111, ρ 115, ρ 119, ρ 123, ρ 127, ρ 131, ρ 135, ρ 139, ρ 143, ρ 147, ρ 151, ρ 155, ρ 159, ρ 163, ρ 167, ρ 171, ρ 175, ρ 179, ρ 183, ρ 187, ρ 191, ρ 195, ρ 199])).getD i 0 = _
      rw [s51, show seg ρ 1 32 = seg ρT 1 32 from seg_congr fun i hi => hρ _ (by show 1 + i < 65; omega), show ρ 201 = ρT 0 - 1 by rw [h201, IntKind.wrap_i64]; omega, e0', ← hX]
theorem Mod32_end {cl : Code} (hb : loopAt 0 modB = some cl) {ρ0 ρT : Nat → Int} (hI : Mod32I ρ0 ρT) (hlt : ¬ 0 ≤ ρT 0) :
    ∃ e x', RoundEnd Try.prog sfns (callN Try.prog RT 300 5) 300 cl Mod32T.slT Mod32T.memT Mod32T.m ρT e x' ∧ ((e = .normal ∧ Mod32I ρ0 x' ∧ (x' 0 + 1).toNat < (ρT 0 + 1).toNat) ∨ (e = .exit Mod32T.xid ∧ ∀ i, i < Mod32T.m → x' i = (sfns.g Mod32T.j [xs Mod32T.m ρ0]).getD i 0)) := by
  obtain ⟨i1, i2, i3, i4⟩ := hI
  have hk : roundB Try.prog RT 300 5 (loopAt 0 modB) Mod32T [false] (some 0) [.cmp 65 .geq (.v 0) (.l 0), .cond 65 false] [.v 0, .v 1, .v 2, .v 3, .v 4, .v 5, .v 6, .v 7, .v 8, .v 9, .v 10, .v 11, .v 12, .v 13, .v 14, .v 15, .v 16, .v 17, .v 18, .v 19, .v 20, .v 21, .v 22, .v 23, .v 24, .v 25, .v 26, .v 27, .v 28, .v 29, .v 30, .v 31, .v 32, .v 33, .v 34, .v 35, .v 36, .v 37, .v 38, .v 39, .v 40, .v 41, .v 42, .v 43, .v 44, .v 45, .v 46, .v 47, .v 48, .v 49, .v 50, .v 51, .v 52, .v 53, .v 54, .v 55, .v 56, .v 57, .v 58, .v 59, .v 60, .v 61, .v 62, .v 63, .v 64] = true := by kernel_rfl
  rw [hb] at hk
  refine ⟨.exit 0, ρT, RoundEnd.of (e := some 0) hk fun ρ hρ hd => ?_, .inr ⟨rfl, fun i hi => ?_⟩⟩
  · have r0 : ρ 0 = ρT 0 := hρ 0 (by decide)
    simp only [D_nil, D_add, D_sub, D_mul, D_and, D_or, D_xor, D_shl, D_shr, D_andNot, D_quo, D_rem, D_add_i64, D_sub_i64, D_mul_i64, D_add_u32, D_sub_u32, D_mul_u32, D_add_u8, D_sub_u8, D_mul_u8, D_eql, D_neq, D_lss, D_leq, D_gtr, D_geq, D_not, D_conv, D_eqs, D_call, D_cond, D_need, D_idx, D_sel, D_upd, D_shv, D_beq, List.map_cons, List.map_nil, Ref.den, r0] at hd
    obtain ⟨hc, -⟩ := hd
    have kc := bit_false hc (decide_eq_false hlt)
    refine ⟨by simp only [G_nil, G_bin, G_cmp, G_not, G_conv, G_eqs, G_call, G_cond, G_need, G_idx, G_sel, G_upd, G_shv, G_beq, List.map_cons, List.map_nil, Ref.den]; exact ⟨kc, trivial⟩, fun i hi => ?_⟩
    show ([ρ 0] ++ (seg ρ 1 32 ++ seg ρ 33 32)).getD i 0 = _
    rw [← Mod32_get ρ hi, hρ i hi]
  · have hi : i < 65 := hi
    have e1 : ρT 0 = -1 := by omega
    have hA : ((xs 65 ρ0).drop 1).take 32 = seg ρ0 1 32 := xs_drop (by omega)
    show ρT i = ([-1] ++ (((xs 65 ρ0).drop 1).take 32 ++ dg 256 32 (dv 256 (((xs 65 ρ0).drop 1).take 32) % LL))).getD i 0
    rw [hA, Mod32_get ρT hi, e1, i1]
    rw [e1, show (-1 + 1 : Int).toNat = 0 from rfl, Int.pow_zero, Int.ediv_one] at i4
    rw [i4]
theorem okMod32 : CtrOK Try.prog sfns cMod32 := by
  refine CtrOK.ofP (t := Mod32T) (k := 0) (fn := Try.f28) (body := modB) okRT mixed (lf := 300) (d := 5) (by kernel_rfl) (by kernel_rfl) ?_ rfl fun w vs xs ha _ => ?_
  · intro cl hcl
    refine LoopOK.toW (callN_ok okRT mixed 300 5) mixed (lf := 300) ⟨Mod32I, fun ρ => (ρ 0 + 1).toNat, fun ρ0 hT hp => ?_, fun ρ0 ρT hT hI => ?_⟩
    · obtain ⟨p1, p2⟩ : ρ0 0 = 255 ∧ seg ρ0 33 32 = List.replicate 32 0 := hp
      refine ⟨rfl, by omega, by omega, ?_⟩
      have hb := dv_bound (by decide) (Mod32_dig hT)
      rw [seg_len] at hb
      have e : dv 256 (seg ρ0 1 32) / 2 ^ (255 + 1 : Int).toNat = 0 := Int.ediv_eq_zero_of_lt hb.1 (by
        refine Int.lt_of_lt_of_le hb.2 ?_
        show (256 : Int) ^ 32 ≤ 2 ^ 256
        decide +kernel)
      rw [p2, p1, e]; decide
    · by_cases h : 0 ≤ ρT 0
      · exact Mod32_go hcl hT hI h
      · exact Mod32_end hcl hI h
  · obtain ⟨v, a, rfl, rfl, ⟨la, -, ia⟩⟩ := open1 ha
    refine WayP.of (dec := []) (fs := [.need 32 [[.l 255, .v 0, .v 1, .v 2, .v 3, .v 4, .v 5, .v 6, .v 7, .v 8, .v 9, .v 10, .v 11, .v 12, .v 13, .v 14, .v 15, .v 16, .v 17, .v 18, .v 19, .v 20, .v 21, .v 22, .v 23, .v 24, .v 25, .v 26, .v 27, .v 28, .v 29, .v 30, .v 31, .l 0, .l 0, .l 0, .l 0, .l 0, .l 0, .l 0, .l 0, .l 0, .l 0, .l 0, .l 0, .l 0, .l 0, .l 0, .l 0, .l 0, .l 0, .l 0, .l 0, .l 0, .l 0, .l 0, .l 0, .l 0, .l 0, .l 0, .l 0, .l 0, .l 0, .l 0, .l 0]], .call 32 32 [[.l 255, .v 0, .v 1, .v 2, .v 3, .v 4, .v 5, .v 6, .v 7, .v 8, .v 9, .v 10, .v 11, .v 12, .v 13, .v 14, .v 15, .v 16, .v 17, .v 18, .v 19, .v 20, .v 21, .v 22, .v 23, .v 24, .v 25, .v 26, .v 27, .v 28, .v 29, .v 30, .v 31, .l 0, .l 0, .l 0, .l 0, .l 0, .l 0, .l 0, .l 0, .l 0, .l 0, .l 0, .l 0, .l 0, .l 0, .l 0, .l 0, .l 0, .l 0, .l 0, .l 0, .l 0, .l 0, .l 0, .l 0, .l 0, .l 0, .l 0, .l 0, .l 0, .l 0, .l 0, .l 0]] 65]) (refs := [.v 65, .v 66, .v 67, .v 68, .v 69, .v 70, .v 71, .v 72, .v 73, .v 74, .v 75, .v 76, .v 77, .v 78, .v 79, .v 80, .v 81, .v 82, .v 83, .v 84, .v 85, .v 86, .v 87, .v 88, .v 89, .v 90, .v 91, .v 92, .v 93, .v 94, .v 95, .v 96]) (ps := [(.v 0, .v 33), (.v 1, .v 34), (.v 2, .v 35), (.v 3, .v 36), (.v 4, .v 37), (.v 5, .v 38), (.v 6, .v 39), (.v 7, .v 40), (.v 8, .v 41), (.v 9, .v 42), (.v 10, .v 43), (.v 11, .v 44), (.v 12, .v 45), (.v 13, .v 46), (.v 14, .v 47), (.v 15, .v 48), (.v 16, .v 49), (.v 17, .v 50), (.v 18, .v 51), (.v 19, .v 52), (.v 20, .v 53), (.v 21, .v 54), (.v 22, .v 55), (.v 23, .v 56), (.v 24, .v 57), (.v 25, .v 58), (.v 26, .v 59), (.v 27, .v 60), (.v 28, .v 61), (.v 29, .v 62), (.v 30, .v 63), (.v 31, .v 64)]) (by kernel_rfl) fun ρ hρ hd => ?_
    have ea : seg ρ 0 32 = a := seg_of (fun i hi => by
      rw [Nat.zero_add, hρ i hi]
      simp only [flat, List.flatten_cons, List.flatten_nil, List.append_nil]) la
    simp only [D_nil, D_add, D_sub, D_mul, D_and, D_or, D_xor, D_shl, D_shr, D_andNot, D_quo, D_rem, D_add_i64, D_sub_i64, D_mul_i64, D_add_u32, D_sub_u32, D_mul_u32, D_add_u8, D_sub_u8, D_mul_u8, D_eql, D_neq, D_lss, D_leq, D_gtr, D_geq, D_not, D_conv, D_eqs, D_call, D_cond, D_need, D_idx, D_sel, D_upd, D_shv, D_beq, List.map_cons, List.map_nil, Ref.den] at hd
    obtain ⟨hcall, -⟩ := hd
    refine ⟨?_, ?_, fun p hp => ?_⟩
    · simp only [G_nil, G_bin, G_cmp, G_not, G_conv, G_eqs, G_call, G_cond, G_need, G_idx, G_sel, G_upd, G_shv, G_beq, List.map_cons, List.map_nil, Ref.den]; exact ⟨⟨rfl, rfl⟩, trivial⟩
    · show seg ρ 65 32 = dg 256 32 (dv 256 a % LL)
      refine seg_of (fun i hi => ?_) (dg_len _ _ _)
      rw [show 65 + i = 32 + (33 + i) by omega, hcall (33 + i) (by show 33 + i < 65; omega)]
      show ([_] ++ (seg ρ 0 32 ++ dg 256 32 (dv 256 (seg ρ 0 32) % LL))).getD (33 + i) 0 = _
      rw [ea]
      simp only [List.getD_eq_getElem?_getD]
      rw [List.getElem?_append_right (by simp; omega), List.getElem?_append_right (by simp [la])]
      simp [la, show 33 + i - 1 - 32 = i by omega]
    · obtain ⟨i, hi, rfl⟩ := List.mem_map.1 (show p ∈ (List.range 32).map fun i => (Ref.v i, Ref.v (33 + i)) from hp)
      have hi := List.mem_range.1 hi
      show ρ i = ρ (33 + i)
      rw [show 33 + i = 32 + (1 + i) by omega, hcall (1 + i) (by show 1 + i < 65; omega)]
      show _ = ([_] ++ (seg ρ 0 32 ++ dg 256 32 (dv 256 (seg ρ 0 32) % LL))).getD (1 + i) 0
      simp only [List.getD_eq_getElem?_getD]
      rw [List.getElem?_append_right (by simp), List.getElem?_append_left (by rw [seg_len]; simp; omega)]
      have e := seg_get (ρ := ρ) (o := 0) hi
      rw [Nat.zero_add, List.getD_eq_getElem?_getD] at e
      rw [show 1 + i - [-1].length = i by simp]
      exact e.symm
#print axioms okMod32
end Go.Proofs.Ytokndemdmkaofaa
