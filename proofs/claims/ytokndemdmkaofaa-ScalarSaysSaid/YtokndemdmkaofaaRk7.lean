/- Numbers modulo L, the paper's own functions: what is shown of ScGood, ScAdd, ScSub, ScMul. No condition. -/
import Derived.Test.YtokndemdmkaofaaRk4
import Derived.Test.YtokndemdmkaofaaRk5
import Derived.Test.YtokndemdmkaofaaRk6
import Derived.Test.YtokndemdmkaofaaSk7
namespace Go.Bx
/-- Two numbers in bytes, and a carry, added. -/
def addc : Int → List Int → List Int → List Int
  | c, x :: l, y :: m => (c + x + y) % 256 :: addc ((c + x + y) / 256) l m
  | _, _, _ => []
def addcOut : Int → List Int → List Int → Int
  | c, x :: l, y :: m => addcOut ((c + x + y) / 256) l m
  | c, _, _ => c
theorem addc_dv : ∀ (c : Int) (l m : List Int), l.length = m.length → dv 256 (addc c l m) + 256 ^ l.length * addcOut c l m = dv 256 l + dv 256 m + c
  | c, [], [], _ => by simp [addc, addcOut, dv]
  | c, x :: l, y :: m, h => by
    have ih := addc_dv ((c + x + y) / 256) l m (by simpa using h)
    simp only [addc, addcOut, dv, List.length_cons, Int.pow_succ]
    have e2 : 256 ^ l.length * 256 * addcOut ((c + x + y) / 256) l m = 256 * (256 ^ l.length * addcOut ((c + x + y) / 256) l m) := by grind
    rw [e2]
    generalize dv 256 (addc ((c + x + y) / 256) l m) = u at *
    generalize 256 ^ l.length * addcOut ((c + x + y) / 256) l m = w at *
    omega
  | _, [], _ :: _, h => by simp at h
  | _, _ :: _, [], h => by simp at h
theorem addc_len : ∀ (c : Int) (l m : List Int), l.length = m.length → (addc c l m).length = l.length
  | _, [], [], _ => rfl
  | c, x :: l, y :: m, h => by simp only [addc, List.length_cons]; rw [addc_len _ l m (by simpa using h)]
  | _, [], _ :: _, h => by simp at h
  | _, _ :: _, [], h => by simp at h
theorem addc_dig : ∀ (c : Int) (l m : List Int), Dig 256 (addc c l m)
  | _, [], [] => ⟨fun x hx => by cases hx⟩
  | c, x :: l, y :: m => Dig.cons (by omega) (by omega) (addc_dig _ l m)
  | _, [], _ :: _ => ⟨fun x hx => by cases hx⟩
  | _, _ :: _, [] => ⟨fun x hx => by cases hx⟩
theorem addcOut_bit : ∀ (c : Int) (l m : List Int), (c = 0 ∨ c = 1) → Dig 256 l → Dig 256 m → addcOut c l m = 0 ∨ addcOut c l m = 1
  | c, [], [], hc, _, _ => hc
  | c, x :: l, y :: m, hc, h, k => by
    have hx := h.head
    have hy := k.head
    exact addcOut_bit _ l m (by omega) h.tail k.tail
  | c, [], _ :: _, hc, _, _ => hc
  | c, _ :: _, [], hc, _, _ => hc
theorem addc_cons {c x y o c' : Int} {l m os : List Int} (ho : o = (c + x + y) % 256) (hc : c' = (c + x + y) / 256) (h : os = addc c' l m) : o :: os = addc c (x :: l) (y :: m) := by rw [ho, h, hc]; rfl
theorem addc_val {l m : List Int} (hl : l.length = 32) (hm : m.length = 32) (dl : Dig 256 l) (dm : Dig 256 m) (h : dv 256 l + dv 256 m < 256 ^ 32) : dv 256 (addc 0 l m) = dv 256 l + dv 256 m := by
  have h1 := addc_dv 0 l m (by omega)
  have h3 := addcOut_bit 0 l m (.inl rfl) dl dm
  have h4 := dv_bound (by decide) (addc_dig 0 l m)
  rw [addc_len _ _ _ (by omega), hl] at h4
  rw [hl] at h1
  generalize addcOut 0 l m = o at *
  generalize (256 : Int) ^ 32 = w at *
  rcases h3 with rfl | rfl <;> omega
theorem LLb : 0 < LL ∧ 2 * LL < 256 ^ 32 ∧ LL < 256 ^ 32 := by decide
theorem LLm (x : Int) : 0 ≤ x % LL ∧ x % LL < LL := ⟨Int.emod_nonneg _ (by have := LLb.1; omega), Int.emod_lt_of_pos _ LLb.1⟩
theorem dvL (z : Int) : dv 256 (dg 256 32 (z % LL)) = z % LL := by
  have h := LLm z
  have hL := LLb
  exact dv_dg_of (by decide) h.1 (by omega)
end Go.Bx
namespace Go.Proofs.Ytokndemdmkaofaa
open Go.RowKit Go.Bx Go.Sx
set_option linter.unusedSimpArgs false
set_option maxRecDepth 100000
theorem add_step {x y c cx s1 cy s o c' : Int} (hx : 0 ≤ x ∧ x < 256) (hy : 0 ≤ y ∧ y < 256) (hc : c = 0 ∨ c = 1) (h1 : cx = IntKind.i64.wrap x) (h2 : s1 = IntKind.i64.wrap (c + cx)) (h3 : cy = IntKind.i64.wrap y) (h4 : s = IntKind.i64.wrap (s1 + cy)) (h5 : o = s % 256) (h6 : binZ .shr .i64 s 8 = some c') :
    (c' = 0 ∨ c' = 1) ∧ o = (c + x + y) % 256 ∧ c' = (c + x + y) / 256 := by
  rw [IntKind.wrap_i64] at h1 h2 h3 h4
  have e : c' = s / 2 ^ 8 := u_shr 8 (by decide) h6 rfl
  simp only [Int.reducePow] at e
  have e1 : cx = x := by omega
  have e3 : cy = y := by omega
  have e2 : s1 = c + x := by omega
  have e4 : s = c + x + y := by omega
  exact ⟨by omega, by omega, by omega⟩
theorem not_val {x y : Int} {dy : Decidable (y ≠ 0)} {b : Bool} (h : x = b2i !(@decide (y ≠ 0) dy)) (hy : y = b2i b) : x = b2i !b := by subst hy; rw [h]; cases b <;> simp [b2i]
def cRGood : Ctr := ⟨29, 54, [.arr .u8 32], [.bool]⟩
def cRAdd : Ctr := ⟨30, 55, [.arr .u8 32, .arr .u8 32], [.arr .u8 32]⟩
def cRSub : Ctr := ⟨31, 56, [.arr .u8 32, .arr .u8 32], [.arr .u8 32]⟩
def cRMul : Ctr := ⟨32, 57, [.arr .u8 32, .arr .u8 32], [.arr .u8 32]⟩
def RT2 : List Ctr := [cAtL, cMinus, cMod32, cMod64a, cMod64b, cProd]
theorem okRT2 : ∀ c ∈ RT2, CtrOK Try.prog sfns c := by
  intro c hc
  simp only [RT2, List.mem_cons, List.not_mem_nil, or_false] at hc
  rcases hc with rfl | rfl | rfl | rfl | rfl | rfl
  · exact okAtL
  · exact okMinus
  · exact okMod32
  · exact okMod64a
  · exact okMod64b
  · exact okProd
theorem okRGood : CtrOK Try.prog sfns cRGood := by
  refine CtrOK.of okRT2 mixed (lf := 300) (d := 5) rfl fun w vs xs ha _ => ?_
  obtain ⟨v, a, rfl, rfl, ⟨la, -, ia⟩⟩ := open1 ha
  refine Go.Sx.Way.of (dec := []) (fs := [.need 50 [[.v 0, .v 1, .v 2, .v 3, .v 4, .v 5, .v 6, .v 7, .v 8, .v 9, .v 10, .v 11, .v 12, .v 13, .v 14, .v 15, .v 16, .v 17, .v 18, .v 19, .v 20, .v 21, .v 22, .v 23, .v 24, .v 25, .v 26, .v 27, .v 28, .v 29, .v 30, .v 31], [.l 237, .l 211, .l 245, .l 92, .l 26, .l 99, .l 18, .l 88, .l 214, .l 156, .l 247, .l 162, .l 222, .l 249, .l 222, .l 20, .l 0, .l 0, .l 0, .l 0, .l 0, .l 0, .l 0, .l 0, .l 0, .l 0, .l 0, .l 0, .l 0, .l 0, .l 0, .l 16]], .call 32 50 [[.v 0, .v 1, .v 2, .v 3, .v 4, .v 5, .v 6, .v 7, .v 8, .v 9, .v 10, .v 11, .v 12, .v 13, .v 14, .v 15, .v 16, .v 17, .v 18, .v 19, .v 20, .v 21, .v 22, .v 23, .v 24, .v 25, .v 26, .v 27, .v 28, .v 29, .v 30, .v 31], [.l 237, .l 211, .l 245, .l 92, .l 26, .l 99, .l 18, .l 88, .l 214, .l 156, .l 247, .l 162, .l 222, .l 249, .l 222, .l 20, .l 0, .l 0, .l 0, .l 0, .l 0, .l 0, .l 0, .l 0, .l 0, .l 0, .l 0, .l 0, .l 0, .l 0, .l 0, .l 16]] 1, .not 33 (.v 32)]) (refs := [.v 33]) (by kernel_rfl) fun ρ hρ hd => ?_
  have ea : seg ρ 0 32 = a := seg_of (fun i hi => by rw [Nat.zero_add, hρ i hi]; simp only [flat, List.flatten_cons, List.flatten_nil, List.append_nil]) la
  simp only [D_nil, D_add, D_sub, D_mul, D_and, D_or, D_xor, D_shl, D_shr, D_andNot, D_quo, D_rem, D_add_i64, D_sub_i64, D_mul_i64, D_add_u32, D_sub_u32, D_mul_u32, D_add_u8, D_sub_u8, D_mul_u8, D_eql, D_neq, D_lss, D_leq, D_gtr, D_geq, D_not, D_conv, D_eqs, D_call, D_cond, D_need, D_idx, D_sel, D_upd, D_shv, D_beq, List.map_cons, List.map_nil, Ref.den] at hd
  obtain ⟨h32, h33, -⟩ := hd
  have e32 : ρ 32 = b2i (decide (LL ≤ dv 256 a)) := by
    rw [h32 0 (by decide)]
    show b2i (decide (dv 256 [237, 211, 245, 92, 26, 99, 18, 88, 214, 156, 247, 162, 222, 249, 222, 20, 0, 0, 0, 0, 0, 0, 0, 0, 0, 0, 0, 0, 0, 0, 0, 16] ≤ dv 256 (seg ρ 0 32))) = _
    rw [ea, order_dv]
  refine ⟨by simp only [G_nil, G_bin, G_cmp, G_not, G_conv, G_eqs, G_call, G_cond, G_need, G_idx, G_sel, G_upd, G_shv, G_beq, List.map_cons, List.map_nil, Ref.den]; exact ⟨trivial, trivial⟩, ?_⟩
  show [ρ 33] = [b2i (decide (dv 256 a < LL))]
  rw [not_val h33 e32]
  by_cases h : LL ≤ dv 256 a
  · rw [decide_eq_true h, decide_eq_false (by omega)]; rfl
  · rw [decide_eq_false h, decide_eq_true (by omega)]; rfl
theorem okRAdd : CtrOK Try.prog sfns cRAdd := by
  refine CtrOK.of okRT2 mixed (lf := 300) (d := 5) rfl fun w vs xs ha _ => ?_
  obtain ⟨v, u, a, b, rfl, rfl, ⟨la, -, ia⟩, ⟨lb, -, ib⟩⟩ := open2 ha
  refine Go.Sx.Way.of (dec := []) (fs := [.need 52 [[.v 0, .v 1, .v 2, .v 3, .v 4, .v 5, .v 6, .v 7, .v 8, .v 9, .v 10, .v 11, .v 12, .v 13, .v 14, .v 15, .v 16, .v 17, .v 18, .v 19, .v 20, .v 21, .v 22, .v 23, .v 24, .v 25, .v 26, .v 27, .v 28, .v 29, .v 30, .v 31]], .call 64 52 [[.v 0, .v 1, .v 2, .v 3, .v 4, .v 5, .v 6, .v 7, .v 8, .v 9, .v 10, .v 11, .v 12, .v 13, .v 14, .v 15, .v 16, .v 17, .v 18, .v 19, .v 20, .v 21, .v 22, .v 23, .v 24, .v 25, .v 26, .v 27, .v 28, .v 29, .v 30, .v 31]] 32, .need 52 [[.v 32, .v 33, .v 34, .v 35, .v 36, .v 37, .v 38, .v 39, .v 40, .v 41, .v 42, .v 43, .v 44, .v 45, .v 46, .v 47, .v 48, .v 49, .v 50, .v 51, .v 52, .v 53, .v 54, .v 55, .v 56, .v 57, .v 58, .v 59, .v 60, .v 61, .v 62, .v 63]], .call 96 52 [[.v 32, .v 33, .v 34, .v 35, .v 36, .v 37, .v 38, .v 39, .v 40, .v 41, .v 42, .v 43, .v 44, .v 45, .v 46, .v 47, .v 48, .v 49, .v 50, .v 51, .v 52, .v 53, .v 54, .v 55, .v 56, .v 57, .v 58, .v 59, .v 60, .v 61, .v 62, .v 63]] 32, .conv 128 .i64 (.v 64), .bin 129 .add .i64 (.l 0) (.v 128), .conv 130 .i64 (.v 96), .bin 131 .add .i64 (.v 129) (.v 130), .conv 132 .u8 (.v 131), .bin 133 .shr .i64 (.v 131) (.l 8), .conv 134 .i64 (.v 65), .bin 135 .add .i64 (.v 133) (.v 134), .conv 136 .i64 (.v 97), .bin 137 .add .i64 (.v 135) (.v 136), .conv 138 .u8 (.v 137), .bin 139 .shr .i64 (.v 137) (.l 8), .conv 140 .i64 (.v 66), .bin 141 .add .i64 (.v 139) (.v 140), .conv 142 .i64 (.v 98), .bin 143 .add .i64 (.v 141) (.v 142), .conv 144 .u8 (.v 143), .bin 145 .shr .i64 (.v 143) (.l 8), .conv 146 .i64 (.v 67), .bin 147 .add .i64 (.v 145) (.v 146), .conv 148 .i64 (.v 99), .bin 149 .add .i64 (.v 147) (.v 148), .conv 150 .u8 (.v 149), .bin 151 .shr .i64 (.v 149) (.l 8), .conv 152 .i64 (.v 68), .bin 153 .add .i64 (.v 151) (.v 152), .conv 154 .i64 (.v 100), .bin 155 .add .i64 (.v 153) (.v 154), .conv 156 .u8 (.v 155), .bin 157 .shr .i64 (.v 155) (.l 8), .conv 158 .i64 (.v 69), .bin 159 .add .i64 (.v 157) (.v 158), .conv 160 .i64 (.v 101), .bin 161 .add .i64 (.v 159) (.v 160), .conv 162 .u8 (.v 161), .bin 163 .shr .i64 (.v 161) (.l 8), .conv 164 .i64 (.v 70), .bin 165 .add .i64 (.v 163) (.v 164), .conv 166 .i64 (.v 102), .bin 167 .add .i64 (.v 165) (.v 166), .conv 168 .u8 (.v 167), .bin 169 .shr .i64 (.v 167) (.l 8), .conv 170 .i64 (.v 71), .bin 171 .add .i64 (.v 169) (.v 170), .conv 172 .i64 (.v 103), .bin 173 .add .i64 (.v 171) (.v 172), .conv 174 .u8 (.v 173), .bin 175 .shr .i64 (.v 173) (.l 8), .conv 176 .i64 (.v 72), .bin 177 .add .i64 (.v 175) (.v 176), .conv 178 .i64 (.v 104), .bin 179 .add .i64 (.v 177) (.v 178), .conv 180 .u8 (.v 179), .bin 181 .shr .i64 (.v 179) (.l 8), .conv 182 .i64 (.v 73), .bin 183 .add .i64 (.v 181) (.v 182), .conv 184 .i64 (.v 105), .bin 185 .add .i64 (.v 183) (.v 184), .conv 186 .u8 (.v 185), .bin 187 .shr .i64 (.v 185) (.l 8), .conv 188 .i64 (.v 74), .bin 189 .add .i64 (.v 187) (.v 188), .conv 190 .i64 (.v 106), .bin 191 .add .i64 (.v 189) (.v 190), .conv 192 .u8 (.v 191), .bin 193 .shr .i64 (.v 191) (.l 8), .conv 194 .i64 (.v 75), .bin 195 .add .i64 (.v 193) (.v 194), .conv 196 .i64 (.v 107), .bin 197 .add .i64 (.v 195) (.v 196), .conv 198 .u8 (.v 197), .bin 199 .shr .i64 (.v 197) (.l 8), .conv 200 .i64 (.v 76), .bin 201 .add .i64 (.v 199) (.v 200), .conv 202 .i64 (.v 108), .bin 203 .add .i64 (.v 201) (.v 202), .conv 204 .u8 (.v 203), .bin 205 .shr .i64 (.v 203) (.l 8), .conv 206 .i64 (.v 77), .bin 207 .add .i64 (.v 205) (.v 206), .conv 208 .i64 (.v 109), .bin 209 .add .i64 (.v 207) (.v 208), .conv 210 .u8 (.v 209), .bin 211 .shr .i64 (.v 209) (.l 8), .conv 212 .i64 (.v 78), .bin 213 .add .i64 (.v 211) (.v 212), .conv 214 .i64 (.v 110), .bin 215 .add .i64 (.v 213) (.v 214), .conv 216 .u8 (.v 215), .bin 217 .shr .i64 (.v 215) (.l 8), .conv 218 .i64 (.v 79), .bin 219 .add .i64 (.v 217) (.v 218), .conv 220 .i64 (.v 111), .bin 221 .add .i64 (.v 219) (.v 220), .conv 222 .u8 (.v 221), .bin 223 .shr .i64 (.v 221) (.l 8), .conv 224 .i64 (.v 80), .bin 225 .add .i64 (.v 223) (.v 224), .conv 226 .i64 (.v 112), .bin 227 .add .i64 (.v 225) (.v 226), .conv 228 .u8 (.v 227), .bin 229 .shr .i64 (.v 227) (.l 8), .conv 230 .i64 (.v 81), .bin 231 .add .i64 (.v 229) (.v 230), .conv 232 .i64 (.v 113), .bin 233 .add .i64 (.v 231) (.v 232), .conv 234 .u8 (.v 233), .bin 235 .shr .i64 (.v 233) (.l 8), .conv 236 .i64 (.v 82), .bin 237 .add .i64 (.v 235) (.v 236), .conv 238 .i64 (.v 114), .bin 239 .add .i64 (.v 237) (.v 238), .conv 240 .u8 (.v 239), .bin 241 .shr .i64 (.v 239) (.l 8), .conv 242 .i64 (.v 83), .bin 243 .add .i64 (.v 241) (.v 242), .conv 244 .i64 (.v 115), .bin 245 .add .i64 (.v 243) (.v 244), .conv 246 .u8 (.v 245), .bin 247 .shr .i64 (.v 245) (.l 8), .conv 248 .i64 (.v 84), .bin 249 .add .i64 (.v 247) (.v 248), .conv 250 .i64 (.v 116), .bin 251 .add .i64 (.v 249) (.v 250), .conv 252 .u8 (.v 251), .bin 253 .shr .i64 (.v 251) (.l 8), .conv 254 .i64 (.v 85), .bin 255 .add .i64 (.v 253) (.v 254), .conv 256 .i64 (.v 117), .bin 257 .add .i64 (.v 255) (.v 256), .conv 258 .u8 (.v 257), .bin 259 .shr .i64 (.v 257) (.l 8), .conv 260 .i64 (.v 86), .bin 261 .add .i64 (.v 259) (.v 260), .conv 262 .i64 (.v 118), .bin 263 .add .i64 (.v 261) (.v 262), .conv 264 .u8 (.v 263), .bin 265 .shr .i64 (.v 263) (.l 8), .conv 266 .i64 (.v 87), .bin 267 .add .i64 (.v 265) (.v 266), .conv 268 .i64 (.v 119), .bin 269 .add .i64 (.v 267) (.v 268), .conv 270 .u8 (.v 269), .bin 271 .shr .i64 (.v 269) (.l 8), .conv 272 .i64 (.v 88), .bin 273 .add .i64 (.v 271) (.v 272), .conv 274 .i64 (.v 120), .bin 275 .add .i64 (.v 273) (.v 274), .conv 276 .u8 (.v 275), .bin 277 .shr .i64 (.v 275) (.l 8), .conv 278 .i64 (.v 89), .bin 279 .add .i64 (.v 277) (.v 278), .conv 280 .i64 (.v 121), .bin 281 .add .i64 (.v 279) (.v 280), .conv 282 .u8 (.v 281), .bin 283 .shr .i64 (.v 281) (.l 8), .conv 284 .i64 (.v 90), .bin 285 .add .i64 (.v 283) (.v 284), .conv 286 .i64 (.v 122), .bin 287 .add .i64 (.v 285) (.v 286), .conv 288 .u8 (.v 287), .bin 289 .shr .i64 (.v 287) (.l 8), .conv 290 .i64 (.v 91), .bin 291 .add .i64 (.v 289) (.v 290), .conv 292 .i64 (.v 123), .bin 293 .add .i64 (.v 291) (.v 292), .conv 294 .u8 (.v 293), .bin 295 .shr .i64 (.v 293) (.l 8), .conv 296 .i64 (.v 92), .bin 297 .add .i64 (.v 295) (.v 296), .conv 298 .i64 (.v 124), .bin 299 .add .i64 (.v 297) (.v 298), .conv 300 .u8 (.v 299), .bin 301 .shr .i64 (.v 299) (.l 8), .conv 302 .i64 (.v 93), .bin 303 .add .i64 (.v 301) (.v 302), .conv 304 .i64 (.v 125), .bin 305 .add .i64 (.v 303) (.v 304), .conv 306 .u8 (.v 305), .bin 307 .shr .i64 (.v 305) (.l 8), .conv 308 .i64 (.v 94), .bin 309 .add .i64 (.v 307) (.v 308), .conv 310 .i64 (.v 126), .bin 311 .add .i64 (.v 309) (.v 310), .conv 312 .u8 (.v 311), .bin 313 .shr .i64 (.v 311) (.l 8), .conv 314 .i64 (.v 95), .bin 315 .add .i64 (.v 313) (.v 314), .conv 316 .i64 (.v 127), .bin 317 .add .i64 (.v 315) (.v 316), .conv 318 .u8 (.v 317), .bin 319 .shr .i64 (.v 317) (.l 8), .need 52 [[.v 132, .v 138, .v 144, .v 150, .v 156, .v 162, .v 168, .v 174, .v 180, .v 186, .v 192, .v 198, .v 204, .v 210, .v 216, .v 222, .v 228, .v 234, .v 240, .v 246, .v 252, .v 258, .v 264, .v 270, .v 276, .v 282, .v 288, .v 294, .v 300, .v 306, .v 312, .v 318]], .call 320 52 [[.v 132, .v 138, .v 144, .v 150, .v 156, .v 162, .v 168, .v 174, .v 180, .v 186, .v 192, .v 198, .v 204, .v 210, .v 216, .v 222, .v 228, .v 234, .v 240, .v 246, .v 252, .v 258, .v 264, .v 270, .v 276, .v 282, .v 288, .v 294, .v 300, .v 306, .v 312, .v 318]] 32]) (refs := [.v 320, .v 321, .v 322, .v 323, .v 324, .v 325, .v 326, .v 327, .v 328, .v 329, .v 330, .v 331, .v 332, .v 333, .v 334, .v 335, .v 336, .v 337, .v 338, .v 339, .v 340, .v 341, .v 342, .v 343, .v 344, .v 345, .v 346, .v 347, .v 348, .v 349, .v 350, .v 351]) (by kernel_rfl) fun ρ hρ hd => ?_
  have ea : seg ρ 0 32 = a := seg_of (fun i hi => by
    rw [Nat.zero_add, hρ i (by show i < 64; omega)]
    simp only [flat, List.flatten_cons, List.flatten_nil, List.append_nil, List.getD_eq_getElem?_getD]
    rw [List.getElem?_append_left (by omega)]) la
  have eb : seg ρ 32 32 = b := seg_of (fun i hi => by
    rw [hρ (32 + i) (by show 32 + i < 64; omega)]
    simp only [flat, List.flatten_cons, List.flatten_nil, List.append_nil, List.getD_eq_getElem?_getD]
    rw [List.getElem?_append_right (by omega), la, Nat.add_sub_cancel_left]) lb
  simp only [D_nil, D_add, D_sub, D_mul, D_and, D_or, D_xor, D_shl, D_shr, D_andNot, D_quo, D_rem, D_add_i64, D_sub_i64, D_mul_i64, D_add_u32, D_sub_u32, D_mul_u32, D_add_u8, D_sub_u8, D_mul_u8, D_eql, D_neq, D_lss, D_leq, D_gtr, D_geq, D_not, D_conv, D_eqs, D_call, D_cond, D_need, D_idx, D_sel, D_upd, D_shv, D_beq, List.map_cons, List.map_nil, Ref.den, c_u8] at hd
  obtain ⟨h64, h96, h128, h129, h130, h131, h132, h133, h134, h135, h136, h137, h138, h139, h140, h141, h142, h143, h144, h145, h146, h147, h148, h149, h150, h151, h152, h153, h154, h155, h156, h157, h158, h159, h160, h161, h162, h163, h164, h165, h166, h167, h168, h169, h170, h171, h172, h173, h174, h175, h176, h177, h178, h179, h180, h181, h182, h183, h184, h185, h186, h187, h188, h189, h190, h191, h192, h193, h194, h195, h196, h197, h198, h199, h200, h201, h202, h203, h204, h205, h206, h207, h208, h209, h210, h211, h212, h213, h214, h215, h216, h217, h218, h219, h220, h221, h222, h223, h224, h225, h226, h227, h228, h229, h230, h231, h232, h233, h234, h235, h236, h237, h238, h239, h240, h241, h242, h243, h244, h245, h246, h247, h248, h249, h250, h251, h252, h253, h254, h255, h256, h257, h258, h259, h260, h261, h262, h263, h264, h265, h266, h267, h268, h269, h270, h271, h272, h273, h274, h275, h276, h277, h278, h279, h280, h281, h282, h283, h284, h285, h286, h287, h288, h289, h290, h291, h292, h293, h294, h295, h296, h297, h298, h299, h300, h301, h302, h303, h304, h305, h306, h307, h308, h309, h310, h311, h312, h313, h314, h315, h316, h317, h318, h319, h320, -⟩ := hd
  have s64 : seg ρ 64 32 = dg 256 32 (dv 256 (seg ρ 0 32) % LL) := seg_of h64 (dg_len _ _ _)
  have s96 : seg ρ 96 32 = dg 256 32 (dv 256 (seg ρ 32 32) % LL) := seg_of h96 (dg_len _ _ _)
  rw [ea] at s64
  rw [eb] at s96
  have dX : Dig 256 (seg ρ 64 32) := by rw [s64]; exact dg_dig (by decide) _ _
  have dY : Dig 256 (seg ρ 96 32) := by rw [s96]; exact dg_dig (by decide) _ _
  have vX : dv 256 (seg ρ 64 32) = dv 256 a % LL := by rw [s64, dvL]
  have vY : dv 256 (seg ρ 96 32) = dv 256 b % LL := by rw [s96, dvL]
  have gX : ∀ i, i < 32 → 0 ≤ ρ (64 + i) ∧ ρ (64 + i) < 256 := fun i hi => by
    have := dX.d _ (getD_mem (l := seg ρ 64 32) (i := i) (by rw [seg_len]; exact hi)); rwa [seg_get hi] at this
  have gY : ∀ i, i < 32 → 0 ≤ ρ (96 + i) ∧ ρ (96 + i) < 256 := fun i hi => by
    have := dY.d _ (getD_mem (l := seg ρ 96 32) (i := i) (by rw [seg_len]; exact hi)); rwa [seg_get hi] at this
  have p0 := add_step (gX 0 (by decide)) (gY 0 (by decide)) (.inl rfl) h128 h129 h130 h131 h132 h133
  have p1 := add_step (gX 1 (by decide)) (gY 1 (by decide)) p0.1 h134 h135 h136 h137 h138 h139
  have p2 := add_step (gX 2 (by decide)) (gY 2 (by decide)) p1.1 h140 h141 h142 h143 h144 h145
  have p3 := add_step (gX 3 (by decide)) (gY 3 (by decide)) p2.1 h146 h147 h148 h149 h150 h151
  have p4 := add_step (gX 4 (by decide)) (gY 4 (by decide)) p3.1 h152 h153 h154 h155 h156 h157
  have p5 := add_step (gX 5 (by decide)) (gY 5 (by decide)) p4.1 h158 h159 h160 h161 h162 h163
  have p6 := add_step (gX 6 (by decide)) (gY 6 (by decide)) p5.1 h164 h165 h166 h167 h168 h169
  have p7 := add_step (gX 7 (by decide)) (gY 7 (by decide)) p6.1 h170 h171 h172 h173 h174 h175
  have p8 := add_step (gX 8 (by decide)) (gY 8 (by decide)) p7.1 h176 h177 h178 h179 h180 h181
  have p9 := add_step (gX 9 (by decide)) (gY 9 (by decide)) p8.1 h182 h183 h184 h185 h186 h187
  have p10 := add_step (gX 10 (by decide)) (gY 10 (by decide)) p9.1 h188 h189 h190 h191 h192 h193
  have p11 := add_step (gX 11 (by decide)) (gY 11 (by decide)) p10.1 h194 h195 h196 h197 h198 h199
  have p12 := add_step (gX 12 (by decide)) (gY 12 (by decide)) p11.1 h200 h201 h202 h203 h204 h205
  have p13 := add_step (gX 13 (by decide)) (gY 13 (by decide)) p12.1 h206 h207 h208 h209 h210 h211
  have p14 := add_step (gX 14 (by decide)) (gY 14 (by decide)) p13.1 h212 h213 h214 h215 h216 h217
  have p15 := add_step (gX 15 (by decide)) (gY 15 (by decide)) p14.1 h218 h219 h220 h221 h222 h223
  have p16 := add_step (gX 16 (by decide)) (gY 16 (by decide)) p15.1 h224 h225 h226 h227 h228 h229
  have p17 := add_step (gX 17 (by decide)) (gY 17 (by decide)) p16.1 h230 h231 h232 h233 h234 h235
  have p18 := add_step (gX 18 (by decide)) (gY 18 (by decide)) p17.1 h236 h237 h238 h239 h240 h241
  have p19 := add_step (gX 19 (by decide)) (gY 19 (by decide)) p18.1 h242 h243 h244 h245 h246 h247
  have p20 := add_step (gX 20 (by decide)) (gY 20 (by decide)) p19.1 h248 h249 h250 h251 h252 h253
  have p21 := add_step (gX 21 (by decide)) (gY 21 (by decide)) p20.1 h254 h255 h256 h257 h258 h259
  have p22 := add_step (gX 22 (by decide)) (gY 22 (by decide)) p21.1 h260 h261 h262 h263 h264 h265
  have p23 := add_step (gX 23 (by decide)) (gY 23 (by decide)) p22.1 h266 h267 h268 h269 h270 h271
  have p24 := add_step (gX 24 (by decide)) (gY 24 (by decide)) p23.1 h272 h273 h274 h275 h276 h277
  have p25 := add_step (gX 25 (by decide)) (gY 25 (by decide)) p24.1 h278 h279 h280 h281 h282 h283
  have p26 := add_step (gX 26 (by decide)) (gY 26 (by decide)) p25.1 h284 h285 h286 h287 h288 h289
  have p27 := add_step (gX 27 (by decide)) (gY 27 (by decide)) p26.1 h290 h291 h292 h293 h294 h295
  have p28 := add_step (gX 28 (by decide)) (gY 28 (by decide)) p27.1 h296 h297 h298 h299 h300 h301
  have p29 := add_step (gX 29 (by decide)) (gY 29 (by decide)) p28.1 h302 h303 h304 h305 h306 h307
  have p30 := add_step (gX 30 (by decide)) (gY 30 (by decide)) p29.1 h308 h309 h310 h311 h312 h313
  have p31 := add_step (gX 31 (by decide)) (gY 31 (by decide)) p30.1 h314 h315 h316 h317 h318 h319
  have sd : [ρ 132, ρ 138, ρ 144, ρ 150, ρ 156, ρ 162, ρ 168, ρ 174, ρ 180, ρ 186, ρ 192, ρ 198, ρ 204, ρ 210, ρ 216, ρ 222, ρ 228, ρ 234, ρ 240, ρ 246, ρ 252, ρ 258, ρ 264, ρ 270, ρ 276, ρ 282, ρ 288, ρ 294, ρ 300, ρ 306, ρ 312, ρ 318] = addc 0 (seg ρ 64 32) (seg ρ 96 32) :=
    addc_cons p0.2.1 p0.2.2 (addc_cons p1.2.1 p1.2.2 (addc_cons p2.2.1 p2.2.2 (addc_cons p3.2.1 p3.2.2 (addc_cons p4.2.1 p4.2.2 (addc_cons p5.2.1 p5.2.2 (addc_cons p6.2.1 p6.2.2 (addc_cons p7.2.1 p7.2.2 (addc_cons p8.2.1 p8.2.2 (addc_cons p9.2.1 p9.2.2 (addc_cons p10.2.1 p10.2.2 (addc_cons p11.2.1 p11.2.2 (addc_cons p12.2.1 p12.2.2 (addc_cons p13.2.1 p13.2.2 (addc_cons p14.2.1 p14.2.2 (addc_cons p15.2.1 p15.2.2 (addc_cons p16.2.1 p16.2.2 (addc_cons p17.2.1 p17.2.2 (addc_cons p18.2.1 p18.2.2 (addc_cons p19.2.1 p19.2.2 (addc_cons p20.2.1 p20.2.2 (addc_cons p21.2.1 p21.2.2 (addc_cons p22.2.1 p22.2.2 (addc_cons p23.2.1 p23.2.2 (addc_cons p24.2.1 p24.2.2 (addc_cons p25.2.1 p25.2.2 (addc_cons p26.2.1 p26.2.2 (addc_cons p27.2.1 p27.2.2 (addc_cons p28.2.1 p28.2.2 (addc_cons p29.2.1 p29.2.2 (addc_cons p30.2.1 p30.2.2 (addc_cons p31.2.1 p31.2.2 (rfl))))))))))))))))))))))))))))))))
  have hX := LLm (dv 256 a)
  have hY := LLm (dv 256 b)
  have hL := LLb
  have vD := addc_val (seg_len ρ 64 32) (seg_len ρ 96 32) dX dY (by rw [vX, vY]; omega)
  rw [vX, vY] at vD
  refine ⟨by simp only [G_nil, G_bin, G_cmp, G_not, G_conv, G_eqs, G_call, G_cond, G_need, G_idx, G_sel, G_upd, G_shv, G_beq, List.map_cons, List.map_nil, Ref.den]; exact ⟨trivial, trivial, trivial, trivial⟩, ?_⟩
  show seg ρ 320 32 = dg 256 32 ((dv 256 a + dv 256 b) % LL)
  have s320 : seg ρ 320 32 = dg 256 32 (dv 256 [ρ 132, ρ 138, ρ 144, ρ 150, ρ 156, ρ 162, ρ 168, ρ 174, ρ 180, ρ 186, ρ 192, ρ 198, ρ 204, ρ 210, ρ 216, ρ 222, ρ 228, ρ 234, ρ 240, ρ 246, ρ 252, ρ 258, ρ 264, ρ 270, ρ 276, ρ 282, ρ 288, ρ 294, ρ 300, ρ 306, ρ 312, ρ 318] % LL) := seg_of h320 (dg_len _ _ _)
  rw [s320, sd, vD, ← Int.add_emod]
def RT3 : List Ctr := cRAdd :: RT2
theorem okRT3 : ∀ c ∈ RT3, CtrOK Try.prog sfns c := by
  intro c hc
  rcases List.mem_cons.1 hc with rfl | hc
  · exact okRAdd
  · exact okRT2 c hc
theorem okRSub : CtrOK Try.prog sfns cRSub := by
  refine CtrOK.of okRT3 mixed (lf := 300) (d := 5) rfl fun w vs xs ha _ => ?_
  obtain ⟨v, u, a, b, rfl, rfl, ⟨la, -, ia⟩, ⟨lb, -, ib⟩⟩ := open2 ha
  have hY := LLm (dv 256 b)
  have hL := LLb
  have z0 : dg 256 32 0 = [0, 0, 0, 0, 0, 0, 0, 0, 0, 0, 0, 0, 0, 0, 0, 0, 0, 0, 0, 0, 0, 0, 0, 0, 0, 0, 0, 0, 0, 0, 0, 0] := by decide +kernel
  have cmp : dg 256 32 (dv 256 b % LL) = [0, 0, 0, 0, 0, 0, 0, 0, 0, 0, 0, 0, 0, 0, 0, 0, 0, 0, 0, 0, 0, 0, 0, 0, 0, 0, 0, 0, 0, 0, 0, 0] ↔ dv 256 b % LL = 0 := by
    rw [← z0]
    refine ⟨fun h => ?_, fun h => by rw [h]⟩
    have := congrArg (dv 256) h
    rw [dvL, z0] at this
    exact this.trans (by decide +kernel)
  by_cases hz : dv 256 b % LL = 0
  · refine Go.Sx.Way.of (dec := [true]) (fs := [.need 52 [[.v 32, .v 33, .v 34, .v 35, .v 36, .v 37, .v 38, .v 39, .v 40, .v 41, .v 42, .v 43, .v 44, .v 45, .v 46, .v 47, .v 48, .v 49, .v 50, .v 51, .v 52, .v 53, .v 54, .v 55, .v 56, .v 57, .v 58, .v 59, .v 60, .v 61, .v 62, .v 63]], .call 64 52 [[.v 32, .v 33, .v 34, .v 35, .v 36, .v 37, .v 38, .v 39, .v 40, .v 41, .v 42, .v 43, .v 44, .v 45, .v 46, .v 47, .v 48, .v 49, .v 50, .v 51, .v 52, .v 53, .v 54, .v 55, .v 56, .v 57, .v 58, .v 59, .v 60, .v 61, .v 62, .v 63]] 32, .eqs 96 [(.v 64, .l 0), (.v 65, .l 0), (.v 66, .l 0), (.v 67, .l 0), (.v 68, .l 0), (.v 69, .l 0), (.v 70, .l 0), (.v 71, .l 0), (.v 72, .l 0), (.v 73, .l 0), (.v 74, .l 0), (.v 75, .l 0), (.v 76, .l 0), (.v 77, .l 0), (.v 78, .l 0), (.v 79, .l 0), (.v 80, .l 0), (.v 81, .l 0), (.v 82, .l 0), (.v 83, .l 0), (.v 84, .l 0), (.v 85, .l 0), (.v 86, .l 0), (.v 87, .l 0), (.v 88, .l 0), (.v 89, .l 0), (.v 90, .l 0), (.v 91, .l 0), (.v 92, .l 0), (.v 93, .l 0), (.v 94, .l 0), (.v 95, .l 0)], .cond 96 true, .need 52 [[.v 0, .v 1, .v 2, .v 3, .v 4, .v 5, .v 6, .v 7, .v 8, .v 9, .v 10, .v 11, .v 12, .v 13, .v 14, .v 15, .v 16, .v 17, .v 18, .v 19, .v 20, .v 21, .v 22, .v 23, .v 24, .v 25, .v 26, .v 27, .v 28, .v 29, .v 30, .v 31]], .call 97 52 [[.v 0, .v 1, .v 2, .v 3, .v 4, .v 5, .v 6, .v 7, .v 8, .v 9, .v 10, .v 11, .v 12, .v 13, .v 14, .v 15, .v 16, .v 17, .v 18, .v 19, .v 20, .v 21, .v 22, .v 23, .v 24, .v 25, .v 26, .v 27, .v 28, .v 29, .v 30, .v 31]] 32]) (refs := [.v 97, .v 98, .v 99, .v 100, .v 101, .v 102, .v 103, .v 104, .v 105, .v 106, .v 107, .v 108, .v 109, .v 110, .v 111, .v 112, .v 113, .v 114, .v 115, .v 116, .v 117, .v 118, .v 119, .v 120, .v 121, .v 122, .v 123, .v 124, .v 125, .v 126, .v 127, .v 128]) (by kernel_rfl) fun ρ hρ hd => ?_
    have ea : seg ρ 0 32 = a := seg_of (fun i hi => by
      rw [Nat.zero_add, hρ i (by show i < 64; omega)]
      simp only [flat, List.flatten_cons, List.flatten_nil, List.append_nil, List.getD_eq_getElem?_getD]
      rw [List.getElem?_append_left (by omega)]) la
    have eb : seg ρ 32 32 = b := seg_of (fun i hi => by
      rw [hρ (32 + i) (by show 32 + i < 64; omega)]
      simp only [flat, List.flatten_cons, List.flatten_nil, List.append_nil, List.getD_eq_getElem?_getD]
      rw [List.getElem?_append_right (by omega), la, Nat.add_sub_cancel_left]) lb
    simp only [D_nil, D_add, D_sub, D_mul, D_and, D_or, D_xor, D_shl, D_shr, D_andNot, D_quo, D_rem, D_add_i64, D_sub_i64, D_mul_i64, D_add_u32, D_sub_u32, D_mul_u32, D_add_u8, D_sub_u8, D_mul_u8, D_eql, D_neq, D_lss, D_leq, D_gtr, D_geq, D_not, D_conv, D_eqs, D_call, D_cond, D_need, D_idx, D_sel, D_upd, D_shv, D_beq, List.map_cons, List.map_nil, Ref.den] at hd
    obtain ⟨h64, h96, h97, -⟩ := hd
    have s64 : seg ρ 64 32 = dg 256 32 (dv 256 (seg ρ 32 32) % LL) := seg_of h64 (dg_len _ _ _)
    have q96 : ρ 96 = b2i (decide (seg ρ 64 32 = [0, 0, 0, 0, 0, 0, 0, 0, 0, 0, 0, 0, 0, 0, 0, 0, 0, 0, 0, 0, 0, 0, 0, 0, 0, 0, 0, 0, 0, 0, 0, 0])) := h96.trans (congrArg b2i eqs_lists)
    have s97 : seg ρ 97 32 = dg 256 32 (dv 256 (seg ρ 0 32) % LL) := seg_of h97 (dg_len _ _ _)
    rw [eb] at s64
    rw [s64] at q96
    have k96 := bit_true q96 (decide_eq_true (cmp.2 hz))
    refine ⟨by simp only [G_nil, G_bin, G_cmp, G_not, G_conv, G_eqs, G_call, G_cond, G_need, G_idx, G_sel, G_upd, G_shv, G_beq, List.map_cons, List.map_nil, Ref.den]; exact ⟨trivial, k96, trivial, trivial⟩, ?_⟩
    show seg ρ 97 32 = dg 256 32 ((dv 256 a - dv 256 b) % LL)
    rw [s97, ea, ← Int.sub_emod_emod, hz, Int.sub_zero]
  · refine Go.Sx.Way.of (dec := [false]) (fs := [.need 52 [[.v 32, .v 33, .v 34, .v 35, .v 36, .v 37, .v 38, .v 39, .v 40, .v 41, .v 42, .v 43, .v 44, .v 45, .v 46, .v 47, .v 48, .v 49, .v 50, .v 51, .v 52, .v 53, .v 54, .v 55, .v 56, .v 57, .v 58, .v 59, .v 60, .v 61, .v 62, .v 63]], .call 64 52 [[.v 32, .v 33, .v 34, .v 35, .v 36, .v 37, .v 38, .v 39, .v 40, .v 41, .v 42, .v 43, .v 44, .v 45, .v 46, .v 47, .v 48, .v 49, .v 50, .v 51, .v 52, .v 53, .v 54, .v 55, .v 56, .v 57, .v 58, .v 59, .v 60, .v 61, .v 62, .v 63]] 32, .eqs 96 [(.v 64, .l 0), (.v 65, .l 0), (.v 66, .l 0), (.v 67, .l 0), (.v 68, .l 0), (.v 69, .l 0), (.v 70, .l 0), (.v 71, .l 0), (.v 72, .l 0), (.v 73, .l 0), (.v 74, .l 0), (.v 75, .l 0), (.v 76, .l 0), (.v 77, .l 0), (.v 78, .l 0), (.v 79, .l 0), (.v 80, .l 0), (.v 81, .l 0), (.v 82, .l 0), (.v 83, .l 0), (.v 84, .l 0), (.v 85, .l 0), (.v 86, .l 0), (.v 87, .l 0), (.v 88, .l 0), (.v 89, .l 0), (.v 90, .l 0), (.v 91, .l 0), (.v 92, .l 0), (.v 93, .l 0), (.v 94, .l 0), (.v 95, .l 0)], .cond 96 false, .need 51 [[.l 237, .l 211, .l 245, .l 92, .l 26, .l 99, .l 18, .l 88, .l 214, .l 156, .l 247, .l 162, .l 222, .l 249, .l 222, .l 20, .l 0, .l 0, .l 0, .l 0, .l 0, .l 0, .l 0, .l 0, .l 0, .l 0, .l 0, .l 0, .l 0, .l 0, .l 0, .l 16], [.v 64, .v 65, .v 66, .v 67, .v 68, .v 69, .v 70, .v 71, .v 72, .v 73, .v 74, .v 75, .v 76, .v 77, .v 78, .v 79, .v 80, .v 81, .v 82, .v 83, .v 84, .v 85, .v 86, .v 87, .v 88, .v 89, .v 90, .v 91, .v 92, .v 93, .v 94, .v 95]], .call 97 51 [[.l 237, .l 211, .l 245, .l 92, .l 26, .l 99, .l 18, .l 88, .l 214, .l 156, .l 247, .l 162, .l 222, .l 249, .l 222, .l 20, .l 0, .l 0, .l 0, .l 0, .l 0, .l 0, .l 0, .l 0, .l 0, .l 0, .l 0, .l 0, .l 0, .l 0, .l 0, .l 16], [.v 64, .v 65, .v 66, .v 67, .v 68, .v 69, .v 70, .v 71, .v 72, .v 73, .v 74, .v 75, .v 76, .v 77, .v 78, .v 79, .v 80, .v 81, .v 82, .v 83, .v 84, .v 85, .v 86, .v 87, .v 88, .v 89, .v 90, .v 91, .v 92, .v 93, .v 94, .v 95]] 32, .need 55 [[.v 0, .v 1, .v 2, .v 3, .v 4, .v 5, .v 6, .v 7, .v 8, .v 9, .v 10, .v 11, .v 12, .v 13, .v 14, .v 15, .v 16, .v 17, .v 18, .v 19, .v 20, .v 21, .v 22, .v 23, .v 24, .v 25, .v 26, .v 27, .v 28, .v 29, .v 30, .v 31], [.v 97, .v 98, .v 99, .v 100, .v 101, .v 102, .v 103, .v 104, .v 105, .v 106, .v 107, .v 108, .v 109, .v 110, .v 111, .v 112, .v 113, .v 114, .v 115, .v 116, .v 117, .v 118, .v 119, .v 120, .v 121, .v 122, .v 123, .v 124, .v 125, .v 126, .v 127, .v 128]], .call 129 55 [[.v 0, .v 1, .v 2, .v 3, .v 4, .v 5, .v 6, .v 7, .v 8, .v 9, .v 10, .v 11, .v 12, .v 13, .v 14, .v 15, .v 16, .v 17, .v 18, .v 19, .v 20, .v 21, .v 22, .v 23, .v 24, .v 25, .v 26, .v 27, .v 28, .v 29, .v 30, .v 31], [.v 97, .v 98, .v 99, .v 100, .v 101, .v 102, .v 103, .v 104, .v 105, .v 106, .v 107, .v 108, .v 109, .v 110, .v 111, .v 112, .v 113, .v 114, .v 115, .v 116, .v 117, .v 118, .v 119, .v 120, .v 121, .v 122, .v 123, .v 124, .v 125, .v 126, .v 127, .v 128]] 32]) (refs := [.v 129, .v 130, .v 131, .v 132, .v 133, .v 134, .v 135, .v 136, .v 137, .v 138, .v 139, .v 140, .v 141, .v 142, .v 143, .v 144, .v 145, .v 146, .v 147, .v 148, .v 149, .v 150, .v 151, .v 152, .v 153, .v 154, .v 155, .v 156, .v 157, .v 158, .v 159, .v 160]) (by kernel_rfl) fun ρ hρ hd => ?_
    have ea : seg ρ 0 32 = a := seg_of (fun i hi => by
      rw [Nat.zero_add, hρ i (by show i < 64; omega)]
      simp only [flat, List.flatten_cons, List.flatten_nil, List.append_nil, List.getD_eq_getElem?_getD]
      rw [List.getElem?_append_left (by omega)]) la
    have eb : seg ρ 32 32 = b := seg_of (fun i hi => by
      rw [hρ (32 + i) (by show 32 + i < 64; omega)]
      simp only [flat, List.flatten_cons, List.flatten_nil, List.append_nil, List.getD_eq_getElem?_getD]
      rw [List.getElem?_append_right (by omega), la, Nat.add_sub_cancel_left]) lb
    simp only [D_nil, D_add, D_sub, D_mul, D_and, D_or, D_xor, D_shl, D_shr, D_andNot, D_quo, D_rem, D_add_i64, D_sub_i64, D_mul_i64, D_add_u32, D_sub_u32, D_mul_u32, D_add_u8, D_sub_u8, D_mul_u8, D_eql, D_neq, D_lss, D_leq, D_gtr, D_geq, D_not, D_conv, D_eqs, D_call, D_cond, D_need, D_idx, D_sel, D_upd, D_shv, D_beq, List.map_cons, List.map_nil, Ref.den] at hd
    obtain ⟨h64, h96, h97, h129, -⟩ := hd
    have s64 : seg ρ 64 32 = dg 256 32 (dv 256 (seg ρ 32 32) % LL) := seg_of h64 (dg_len _ _ _)
    have q96 : ρ 96 = b2i (decide (seg ρ 64 32 = [0, 0, 0, 0, 0, 0, 0, 0, 0, 0, 0, 0, 0, 0, 0, 0, 0, 0, 0, 0, 0, 0, 0, 0, 0, 0, 0, 0, 0, 0, 0, 0])) := h96.trans (congrArg b2i eqs_lists)
    have s97 : seg ρ 97 32 = dg 256 32 (dv 256 [237, 211, 245, 92, 26, 99, 18, 88, 214, 156, 247, 162, 222, 249, 222, 20, 0, 0, 0, 0, 0, 0, 0, 0, 0, 0, 0, 0, 0, 0, 0, 16] - dv 256 (seg ρ 64 32)) := seg_of h97 (dg_len _ _ _)
    have s129 : seg ρ 129 32 = dg 256 32 ((dv 256 (seg ρ 0 32) + dv 256 (seg ρ 97 32)) % LL) := seg_of h129 (dg_len _ _ _)
    rw [eb] at s64
    rw [s64] at q96
    have k96 := bit_false q96 (decide_eq_false fun h => hz (cmp.1 h))
    rw [s64, dvL, order_dv] at s97
    have v97 : dv 256 (seg ρ 97 32) = LL - dv 256 b % LL := by rw [s97]; exact dv_dg_of (by decide) (by omega) (by omega)
    refine ⟨by simp only [G_nil, G_bin, G_cmp, G_not, G_conv, G_eqs, G_call, G_cond, G_need, G_idx, G_sel, G_upd, G_shv, G_beq, List.map_cons, List.map_nil, Ref.den]; exact ⟨trivial, k96, trivial, trivial, trivial⟩, ?_⟩
    show seg ρ 129 32 = dg 256 32 ((dv 256 a - dv 256 b) % LL)
    rw [s129, ea, v97]
    congr 1
    rw [show dv 256 a + (LL - dv 256 b % LL) = (dv 256 a - dv 256 b % LL) + LL * 1 by omega, Int.add_mul_emod_self_left, Int.sub_emod_emod]
theorem okRMul : CtrOK Try.prog sfns cRMul := by
  refine CtrOK.of okRT2 mixed (lf := 300) (d := 5) rfl fun w vs xs ha _ => ?_
  obtain ⟨v, u, a, b, rfl, rfl, ⟨la, -, ia⟩, ⟨lb, -, ib⟩⟩ := open2 ha
  refine Go.Sx.Way.of (dec := []) (fs := [.need 53 [[.v 0, .v 1, .v 2, .v 3, .v 4, .v 5, .v 6, .v 7, .v 8, .v 9, .v 10, .v 11, .v 12, .v 13, .v 14, .v 15, .v 16, .v 17, .v 18, .v 19, .v 20, .v 21, .v 22, .v 23, .v 24, .v 25, .v 26, .v 27, .v 28, .v 29, .v 30, .v 31], [.v 32, .v 33, .v 34, .v 35, .v 36, .v 37, .v 38, .v 39, .v 40, .v 41, .v 42, .v 43, .v 44, .v 45, .v 46, .v 47, .v 48, .v 49, .v 50, .v 51, .v 52, .v 53, .v 54, .v 55, .v 56, .v 57, .v 58, .v 59, .v 60, .v 61, .v 62, .v 63]], .call 64 53 [[.v 0, .v 1, .v 2, .v 3, .v 4, .v 5, .v 6, .v 7, .v 8, .v 9, .v 10, .v 11, .v 12, .v 13, .v 14, .v 15, .v 16, .v 17, .v 18, .v 19, .v 20, .v 21, .v 22, .v 23, .v 24, .v 25, .v 26, .v 27, .v 28, .v 29, .v 30, .v 31], [.v 32, .v 33, .v 34, .v 35, .v 36, .v 37, .v 38, .v 39, .v 40, .v 41, .v 42, .v 43, .v 44, .v 45, .v 46, .v 47, .v 48, .v 49, .v 50, .v 51, .v 52, .v 53, .v 54, .v 55, .v 56, .v 57, .v 58, .v 59, .v 60, .v 61, .v 62, .v 63]] 64, .need 52 [[.v 64, .v 65, .v 66, .v 67, .v 68, .v 69, .v 70, .v 71, .v 72, .v 73, .v 74, .v 75, .v 76, .v 77, .v 78, .v 79, .v 80, .v 81, .v 82, .v 83, .v 84, .v 85, .v 86, .v 87, .v 88, .v 89, .v 90, .v 91, .v 92, .v 93, .v 94, .v 95, .v 96, .v 97, .v 98, .v 99, .v 100, .v 101, .v 102, .v 103, .v 104, .v 105, .v 106, .v 107, .v 108, .v 109, .v 110, .v 111, .v 112, .v 113, .v 114, .v 115, .v 116, .v 117, .v 118, .v 119, .v 120, .v 121, .v 122, .v 123, .v 124, .v 125, .v 126, .v 127]], .call 128 52 [[.v 64, .v 65, .v 66, .v 67, .v 68, .v 69, .v 70, .v 71, .v 72, .v 73, .v 74, .v 75, .v 76, .v 77, .v 78, .v 79, .v 80, .v 81, .v 82, .v 83, .v 84, .v 85, .v 86, .v 87, .v 88, .v 89, .v 90, .v 91, .v 92, .v 93, .v 94, .v 95, .v 96, .v 97, .v 98, .v 99, .v 100, .v 101, .v 102, .v 103, .v 104, .v 105, .v 106, .v 107, .v 108, .v 109, .v 110, .v 111, .v 112, .v 113, .v 114, .v 115, .v 116, .v 117, .v 118, .v 119, .v 120, .v 121, .v 122, .v 123, .v 124, .v 125, .v 126, .v 127]] 32]) (refs := [.v 128, .v 129, .v 130, .v 131, .v 132, .v 133, .v 134, .v 135, .v 136, .v 137, .v 138, .v 139, .v 140, .v 141, .v 142, .v 143, .v 144, .v 145, .v 146, .v 147, .v 148, .v 149, .v 150, .v 151, .v 152, .v 153, .v 154, .v 155, .v 156, .v 157, .v 158, .v 159]) (by kernel_rfl) fun ρ hρ hd => ?_
  have ea : seg ρ 0 32 = a := seg_of (fun i hi => by
    rw [Nat.zero_add, hρ i (by show i < 64; omega)]
    simp only [flat, List.flatten_cons, List.flatten_nil, List.append_nil, List.getD_eq_getElem?_getD]
    rw [List.getElem?_append_left (by omega)]) la
  have eb : seg ρ 32 32 = b := seg_of (fun i hi => by
    rw [hρ (32 + i) (by show 32 + i < 64; omega)]
    simp only [flat, List.flatten_cons, List.flatten_nil, List.append_nil, List.getD_eq_getElem?_getD]
    rw [List.getElem?_append_right (by omega), la, Nat.add_sub_cancel_left]) lb
  simp only [D_nil, D_add, D_sub, D_mul, D_and, D_or, D_xor, D_shl, D_shr, D_andNot, D_quo, D_rem, D_add_i64, D_sub_i64, D_mul_i64, D_add_u32, D_sub_u32, D_mul_u32, D_add_u8, D_sub_u8, D_mul_u8, D_eql, D_neq, D_lss, D_leq, D_gtr, D_geq, D_not, D_conv, D_eqs, D_call, D_cond, D_need, D_idx, D_sel, D_upd, D_shv, D_beq, List.map_cons, List.map_nil, Ref.den] at hd
  obtain ⟨h64, h128, -⟩ := hd
  have s64 : seg ρ 64 64 = dg 256 64 (dv 256 (seg ρ 0 32) * dv 256 (seg ρ 32 32)) := seg_of h64 (dg_len _ _ _)
  have s128 : seg ρ 128 32 = dg 256 32 (dv 256 (seg ρ 64 64) % LL) := seg_of h128 (dg_len _ _ _)
  rw [ea, eb] at s64
  have b1 := dv_bound (by decide) (dig8s ia)
  have b2 := dv_bound (by decide) (dig8s ib)
  rw [la] at b1
  rw [lb] at b2
  have b4 : dv 256 a * dv 256 b < 256 ^ 32 * 256 ^ 32 := by
    refine Int.lt_of_le_of_lt (Int.mul_le_mul_of_nonneg_left (Int.le_of_lt b2.2) b1.1) (Int.mul_lt_mul_of_pos_right b1.2 (by decide))
  have b5 : (256 : Int) ^ 32 * 256 ^ 32 = 256 ^ 64 := by decide +kernel
  rw [b5] at b4
  have v64 : dv 256 (seg ρ 64 64) = dv 256 a * dv 256 b := by rw [s64]; exact dv_dg_of (by decide) (Int.mul_nonneg b1.1 b2.1) b4
  refine ⟨by simp only [G_nil, G_bin, G_cmp, G_not, G_conv, G_eqs, G_call, G_cond, G_need, G_idx, G_sel, G_upd, G_shv, G_beq, List.map_cons, List.map_nil, Ref.den]; exact ⟨trivial, trivial, trivial⟩, ?_⟩
  show seg ρ 128 32 = dg 256 32 (dv 256 a * dv 256 b % LL)
  rw [s128, v64]
#print axioms okRMul
end Go.Proofs.Ytokndemdmkaofaa
