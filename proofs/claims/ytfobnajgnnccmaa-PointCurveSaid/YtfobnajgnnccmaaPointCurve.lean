/- The statement PointCurve: the law's walk, by the reckoning. No condition. -/
import Derived.Test.YtfobnajgnnccmaaPk5
namespace Go.Proofs.Ytfobnajgnnccmaa
open Go.RowKit Go.Bx Go.Sx
set_option linter.unusedSimpArgs false
set_option linter.unusedVariables false
theorem pbeq_one {x y z : Int} {dy : Decidable (y ≠ 0)} {dx : Decidable (x ≠ 0)} (h : z = Go.Sx.b2i ((@decide (y ≠ 0) dy == @decide (x ≠ 0) dx) != false)) (hs : y ≠ 0 ↔ x ≠ 0) : z = 1 := by
  have e : @decide (y ≠ 0) dy = @decide (x ≠ 0) dx := decide_eq_decide.2 hs
  rw [h, e]; simp [Go.Sx.b2i]
theorem pnot1 {x y : Int} {dy : Decidable (y ≠ 0)} (h : x = b2i !(@decide (y ≠ 0) dy)) (hy : y = 1) : x = 0 := by subst hy; rw [h]; simp [b2i]
theorem cv {x : Int} (b : 0 ≤ x ∧ x < PP) : dv 256 (dg 256 32 x) = x := dv_dg_of (by decide) b.1 (by have := PP_lt; omega)
theorem d_mod : (-121665 % PP * (powZ (121666 % PP) (PP - 2) 256 % PP)) % PP = DD := by
  have h := iv_ok (a := 121666) (by unfold Z; decide)
  have e : powZ (121666 % PP) (PP - 2) 256 % PP = iv 121666 := rfl
  rw [e]
  have b := rmod (-121665 % PP * iv 121666)
  refine Z.can b (by decide) ?_
  have h1 := Z.mod (-121665 % PP * iv 121666)
  have h2 := Z.mod (-121665)
  have h3 : Z (DD * 121666 + 121665) := by unfold Z; decide
  generalize iv 121666 = v at *
  generalize (-121665 % PP * v) % PP = r at *
  generalize -121665 % PP = q at *
  refine cancel (a := 121666) (by unfold Z; decide) ?_
  exact Z.of4 (a := 121666) (b := -121665) (c := 121666 * v) (m := -1) (by grind) h1 h h2 h3
theorem curve_eq {x y : Int} (h : onC (x, y)) : (y * y % PP - x * x % PP) % PP = (1 + (DD * ((x * x % PP) * (y * y % PP) % PP) % PP)) % PP := by
  have e : (y * y % PP - x * x % PP) % PP = (y * y - x * x) % PP := by rw [← Int.sub_emod]
  rw [e]
  have e2 : ((x * x % PP) * (y * y % PP) % PP) = (x * x * (y * y)) % PP := (Int.mul_emod _ _ _).symm
  rw [e2, mulP', Int.add_emod_emod]
  refine Z.iff.1 ?_
  unfold onC at h
  simp only at h
  exact Z.of1 (a := 1) (by grind) h
def cCurve : Ctr := ⟨5, 113, [.arr .u8 32], [.bool]⟩
def PT6 : List Ctr := cPAwake :: (PT4 ++ [cEAdd, cESub, cEMul, cENorm, cEInv, cEGood, cEOf])
theorem okPT6 : ∀ c ∈ PT6, CtrOK Try.prog pfns c := by
  intro c hc
  rcases List.mem_cons.1 hc with rfl | hc
  · exact okPAwake
  rcases List.mem_append.1 hc with hc | hc
  · exact okPT4 c hc
  simp only [List.mem_cons, List.not_mem_nil, or_false] at hc
  rcases hc with rfl | rfl | rfl | rfl | rfl | rfl | rfl
  · exact swap okEAdd rfl rfl
  · exact swap okESub rfl rfl
  · exact swap okEMul rfl rfl
  · exact swap okENorm rfl rfl
  · exact swap okEInv rfl rfl
  · exact swap okEGood rfl rfl
  · exact swap okEOf rfl rfl
theorem okCurve : CtrOK Try.prog pfns cCurve := by
  refine CtrOK.of okPT6 mixed (lf := 300) (d := 5) rfl fun w vs xs ha _ => ?_
  obtain ⟨v, a, rfl, rfl, ⟨la, -, ia⟩⟩ := open1 ha
  rw [show pfns.g cCurve.j [a] = [1] from rfl]
  have dA : Dig 256 a := dig8 ia
  have h31 := H31
  have hH := H255_lt
  refine Go.Sx.Way.of (dec := [false,false,true]) (fs := [.need 111 [], .call 32 111 [] 1, .not 33 (.v 32), .cond 33 false, .need 91 [], .call 34 91 [] 32, .need 94 [[.v 0, .v 1, .v 2, .v 3, .v 4, .v 5, .v 6, .v 7, .v 8, .v 9, .v 10, .v 11, .v 12, .v 13, .v 14, .v 15, .v 16, .v 17, .v 18, .v 19, .v 20, .v 21, .v 22, .v 23, .v 24, .v 25, .v 26, .v 27, .v 28, .v 29, .v 30, .v 31], [.v 34, .v 35, .v 36, .v 37, .v 38, .v 39, .v 40, .v 41, .v 42, .v 43, .v 44, .v 45, .v 46, .v 47, .v 48, .v 49, .v 50, .v 51, .v 52, .v 53, .v 54, .v 55, .v 56, .v 57, .v 58, .v 59, .v 60, .v 61, .v 62, .v 63, .v 64, .v 65]], .call 66 94 [[.v 0, .v 1, .v 2, .v 3, .v 4, .v 5, .v 6, .v 7, .v 8, .v 9, .v 10, .v 11, .v 12, .v 13, .v 14, .v 15, .v 16, .v 17, .v 18, .v 19, .v 20, .v 21, .v 22, .v 23, .v 24, .v 25, .v 26, .v 27, .v 28, .v 29, .v 30, .v 31], [.v 34, .v 35, .v 36, .v 37, .v 38, .v 39, .v 40, .v 41, .v 42, .v 43, .v 44, .v 45, .v 46, .v 47, .v 48, .v 49, .v 50, .v 51, .v 52, .v 53, .v 54, .v 55, .v 56, .v 57, .v 58, .v 59, .v 60, .v 61, .v 62, .v 63, .v 64, .v 65]] 33, .need 95 [[.v 66, .v 67, .v 68, .v 69, .v 70, .v 71, .v 72, .v 73, .v 74, .v 75, .v 76, .v 77, .v 78, .v 79, .v 80, .v 81, .v 82, .v 83, .v 84, .v 85, .v 86, .v 87, .v 88, .v 89, .v 90, .v 91, .v 92, .v 93, .v 94, .v 95, .v 96, .v 97]], .call 99 95 [[.v 66, .v 67, .v 68, .v 69, .v 70, .v 71, .v 72, .v 73, .v 74, .v 75, .v 76, .v 77, .v 78, .v 79, .v 80, .v 81, .v 82, .v 83, .v 84, .v 85, .v 86, .v 87, .v 88, .v 89, .v 90, .v 91, .v 92, .v 93, .v 94, .v 95, .v 96, .v 97]] 65, .cmp 164 .neq (.v 163) (.l 0), .cond 164 false, .need 35 [[.v 99, .v 100, .v 101, .v 102, .v 103, .v 104, .v 105, .v 106, .v 107, .v 108, .v 109, .v 110, .v 111, .v 112, .v 113, .v 114, .v 115, .v 116, .v 117, .v 118, .v 119, .v 120, .v 121, .v 122, .v 123, .v 124, .v 125, .v 126, .v 127, .v 128, .v 129, .v 130], [.v 99, .v 100, .v 101, .v 102, .v 103, .v 104, .v 105, .v 106, .v 107, .v 108, .v 109, .v 110, .v 111, .v 112, .v 113, .v 114, .v 115, .v 116, .v 117, .v 118, .v 119, .v 120, .v 121, .v 122, .v 123, .v 124, .v 125, .v 126, .v 127, .v 128, .v 129, .v 130]], .call 165 35 [[.v 99, .v 100, .v 101, .v 102, .v 103, .v 104, .v 105, .v 106, .v 107, .v 108, .v 109, .v 110, .v 111, .v 112, .v 113, .v 114, .v 115, .v 116, .v 117, .v 118, .v 119, .v 120, .v 121, .v 122, .v 123, .v 124, .v 125, .v 126, .v 127, .v 128, .v 129, .v 130], [.v 99, .v 100, .v 101, .v 102, .v 103, .v 104, .v 105, .v 106, .v 107, .v 108, .v 109, .v 110, .v 111, .v 112, .v 113, .v 114, .v 115, .v 116, .v 117, .v 118, .v 119, .v 120, .v 121, .v 122, .v 123, .v 124, .v 125, .v 126, .v 127, .v 128, .v 129, .v 130]] 32, .need 35 [[.v 131, .v 132, .v 133, .v 134, .v 135, .v 136, .v 137, .v 138, .v 139, .v 140, .v 141, .v 142, .v 143, .v 144, .v 145, .v 146, .v 147, .v 148, .v 149, .v 150, .v 151, .v 152, .v 153, .v 154, .v 155, .v 156, .v 157, .v 158, .v 159, .v 160, .v 161, .v 162], [.v 131, .v 132, .v 133, .v 134, .v 135, .v 136, .v 137, .v 138, .v 139, .v 140, .v 141, .v 142, .v 143, .v 144, .v 145, .v 146, .v 147, .v 148, .v 149, .v 150, .v 151, .v 152, .v 153, .v 154, .v 155, .v 156, .v 157, .v 158, .v 159, .v 160, .v 161, .v 162]], .call 197 35 [[.v 131, .v 132, .v 133, .v 134, .v 135, .v 136, .v 137, .v 138, .v 139, .v 140, .v 141, .v 142, .v 143, .v 144, .v 145, .v 146, .v 147, .v 148, .v 149, .v 150, .v 151, .v 152, .v 153, .v 154, .v 155, .v 156, .v 157, .v 158, .v 159, .v 160, .v 161, .v 162], [.v 131, .v 132, .v 133, .v 134, .v 135, .v 136, .v 137, .v 138, .v 139, .v 140, .v 141, .v 142, .v 143, .v 144, .v 145, .v 146, .v 147, .v 148, .v 149, .v 150, .v 151, .v 152, .v 153, .v 154, .v 155, .v 156, .v 157, .v 158, .v 159, .v 160, .v 161, .v 162]] 32, .need 38 [[.l (-121665)]], .call 229 38 [[.l (-121665)]] 32, .need 38 [[.l 121666]], .call 261 38 [[.l 121666]] 32, .need 37 [[.v 261, .v 262, .v 263, .v 264, .v 265, .v 266, .v 267, .v 268, .v 269, .v 270, .v 271, .v 272, .v 273, .v 274, .v 275, .v 276, .v 277, .v 278, .v 279, .v 280, .v 281, .v 282, .v 283, .v 284, .v 285, .v 286, .v 287, .v 288, .v 289, .v 290, .v 291, .v 292]], .call 293 37 [[.v 261, .v 262, .v 263, .v 264, .v 265, .v 266, .v 267, .v 268, .v 269, .v 270, .v 271, .v 272, .v 273, .v 274, .v 275, .v 276, .v 277, .v 278, .v 279, .v 280, .v 281, .v 282, .v 283, .v 284, .v 285, .v 286, .v 287, .v 288, .v 289, .v 290, .v 291, .v 292]] 32, .need 35 [[.v 229, .v 230, .v 231, .v 232, .v 233, .v 234, .v 235, .v 236, .v 237, .v 238, .v 239, .v 240, .v 241, .v 242, .v 243, .v 244, .v 245, .v 246, .v 247, .v 248, .v 249, .v 250, .v 251, .v 252, .v 253, .v 254, .v 255, .v 256, .v 257, .v 258, .v 259, .v 260], [.v 293, .v 294, .v 295, .v 296, .v 297, .v 298, .v 299, .v 300, .v 301, .v 302, .v 303, .v 304, .v 305, .v 306, .v 307, .v 308, .v 309, .v 310, .v 311, .v 312, .v 313, .v 314, .v 315, .v 316, .v 317, .v 318, .v 319, .v 320, .v 321, .v 322, .v 323, .v 324]], .call 325 35 [[.v 229, .v 230, .v 231, .v 232, .v 233, .v 234, .v 235, .v 236, .v 237, .v 238, .v 239, .v 240, .v 241, .v 242, .v 243, .v 244, .v 245, .v 246, .v 247, .v 248, .v 249, .v 250, .v 251, .v 252, .v 253, .v 254, .v 255, .v 256, .v 257, .v 258, .v 259, .v 260], [.v 293, .v 294, .v 295, .v 296, .v 297, .v 298, .v 299, .v 300, .v 301, .v 302, .v 303, .v 304, .v 305, .v 306, .v 307, .v 308, .v 309, .v 310, .v 311, .v 312, .v 313, .v 314, .v 315, .v 316, .v 317, .v 318, .v 319, .v 320, .v 321, .v 322, .v 323, .v 324]] 32, .bin 357 .xor .u8 (.v 97) (.l 128), .need 34 [[.v 197, .v 198, .v 199, .v 200, .v 201, .v 202, .v 203, .v 204, .v 205, .v 206, .v 207, .v 208, .v 209, .v 210, .v 211, .v 212, .v 213, .v 214, .v 215, .v 216, .v 217, .v 218, .v 219, .v 220, .v 221, .v 222, .v 223, .v 224, .v 225, .v 226, .v 227, .v 228], [.v 165, .v 166, .v 167, .v 168, .v 169, .v 170, .v 171, .v 172, .v 173, .v 174, .v 175, .v 176, .v 177, .v 178, .v 179, .v 180, .v 181, .v 182, .v 183, .v 184, .v 185, .v 186, .v 187, .v 188, .v 189, .v 190, .v 191, .v 192, .v 193, .v 194, .v 195, .v 196]], .call 358 34 [[.v 197, .v 198, .v 199, .v 200, .v 201, .v 202, .v 203, .v 204, .v 205, .v 206, .v 207, .v 208, .v 209, .v 210, .v 211, .v 212, .v 213, .v 214, .v 215, .v 216, .v 217, .v 218, .v 219, .v 220, .v 221, .v 222, .v 223, .v 224, .v 225, .v 226, .v 227, .v 228], [.v 165, .v 166, .v 167, .v 168, .v 169, .v 170, .v 171, .v 172, .v 173, .v 174, .v 175, .v 176, .v 177, .v 178, .v 179, .v 180, .v 181, .v 182, .v 183, .v 184, .v 185, .v 186, .v 187, .v 188, .v 189, .v 190, .v 191, .v 192, .v 193, .v 194, .v 195, .v 196]] 32, .need 38 [[.l 1]], .call 390 38 [[.l 1]] 32, .need 35 [[.v 165, .v 166, .v 167, .v 168, .v 169, .v 170, .v 171, .v 172, .v 173, .v 174, .v 175, .v 176, .v 177, .v 178, .v 179, .v 180, .v 181, .v 182, .v 183, .v 184, .v 185, .v 186, .v 187, .v 188, .v 189, .v 190, .v 191, .v 192, .v 193, .v 194, .v 195, .v 196], [.v 197, .v 198, .v 199, .v 200, .v 201, .v 202, .v 203, .v 204, .v 205, .v 206, .v 207, .v 208, .v 209, .v 210, .v 211, .v 212, .v 213, .v 214, .v 215, .v 216, .v 217, .v 218, .v 219, .v 220, .v 221, .v 222, .v 223, .v 224, .v 225, .v 226, .v 227, .v 228]], .call 422 35 [[.v 165, .v 166, .v 167, .v 168, .v 169, .v 170, .v 171, .v 172, .v 173, .v 174, .v 175, .v 176, .v 177, .v 178, .v 179, .v 180, .v 181, .v 182, .v 183, .v 184, .v 185, .v 186, .v 187, .v 188, .v 189, .v 190, .v 191, .v 192, .v 193, .v 194, .v 195, .v 196], [.v 197, .v 198, .v 199, .v 200, .v 201, .v 202, .v 203, .v 204, .v 205, .v 206, .v 207, .v 208, .v 209, .v 210, .v 211, .v 212, .v 213, .v 214, .v 215, .v 216, .v 217, .v 218, .v 219, .v 220, .v 221, .v 222, .v 223, .v 224, .v 225, .v 226, .v 227, .v 228]] 32, .need 35 [[.v 325, .v 326, .v 327, .v 328, .v 329, .v 330, .v 331, .v 332, .v 333, .v 334, .v 335, .v 336, .v 337, .v 338, .v 339, .v 340, .v 341, .v 342, .v 343, .v 344, .v 345, .v 346, .v 347, .v 348, .v 349, .v 350, .v 351, .v 352, .v 353, .v 354, .v 355, .v 356], [.v 422, .v 423, .v 424, .v 425, .v 426, .v 427, .v 428, .v 429, .v 430, .v 431, .v 432, .v 433, .v 434, .v 435, .v 436, .v 437, .v 438, .v 439, .v 440, .v 441, .v 442, .v 443, .v 444, .v 445, .v 446, .v 447, .v 448, .v 449, .v 450, .v 451, .v 452, .v 453]], .call 454 35 [[.v 325, .v 326, .v 327, .v 328, .v 329, .v 330, .v 331, .v 332, .v 333, .v 334, .v 335, .v 336, .v 337, .v 338, .v 339, .v 340, .v 341, .v 342, .v 343, .v 344, .v 345, .v 346, .v 347, .v 348, .v 349, .v 350, .v 351, .v 352, .v 353, .v 354, .v 355, .v 356], [.v 422, .v 423, .v 424, .v 425, .v 426, .v 427, .v 428, .v 429, .v 430, .v 431, .v 432, .v 433, .v 434, .v 435, .v 436, .v 437, .v 438, .v 439, .v 440, .v 441, .v 442, .v 443, .v 444, .v 445, .v 446, .v 447, .v 448, .v 449, .v 450, .v 451, .v 452, .v 453]] 32, .need 33 [[.v 390, .v 391, .v 392, .v 393, .v 394, .v 395, .v 396, .v 397, .v 398, .v 399, .v 400, .v 401, .v 402, .v 403, .v 404, .v 405, .v 406, .v 407, .v 408, .v 409, .v 410, .v 411, .v 412, .v 413, .v 414, .v 415, .v 416, .v 417, .v 418, .v 419, .v 420, .v 421], [.v 454, .v 455, .v 456, .v 457, .v 458, .v 459, .v 460, .v 461, .v 462, .v 463, .v 464, .v 465, .v 466, .v 467, .v 468, .v 469, .v 470, .v 471, .v 472, .v 473, .v 474, .v 475, .v 476, .v 477, .v 478, .v 479, .v 480, .v 481, .v 482, .v 483, .v 484, .v 485]], .call 486 33 [[.v 390, .v 391, .v 392, .v 393, .v 394, .v 395, .v 396, .v 397, .v 398, .v 399, .v 400, .v 401, .v 402, .v 403, .v 404, .v 405, .v 406, .v 407, .v 408, .v 409, .v 410, .v 411, .v 412, .v 413, .v 414, .v 415, .v 416, .v 417, .v 418, .v 419, .v 420, .v 421], [.v 454, .v 455, .v 456, .v 457, .v 458, .v 459, .v 460, .v 461, .v 462, .v 463, .v 464, .v 465, .v 466, .v 467, .v 468, .v 469, .v 470, .v 471, .v 472, .v 473, .v 474, .v 475, .v 476, .v 477, .v 478, .v 479, .v 480, .v 481, .v 482, .v 483, .v 484, .v 485]] 32, .eqs 518 [(.v 358, .v 486), (.v 359, .v 487), (.v 360, .v 488), (.v 361, .v 489), (.v 362, .v 490), (.v 363, .v 491), (.v 364, .v 492), (.v 365, .v 493), (.v 366, .v 494), (.v 367, .v 495), (.v 368, .v 496), (.v 369, .v 497), (.v 370, .v 498), (.v 371, .v 499), (.v 372, .v 500), (.v 373, .v 501), (.v 374, .v 502), (.v 375, .v 503), (.v 376, .v 504), (.v 377, .v 505), (.v 378, .v 506), (.v 379, .v 507), (.v 380, .v 508), (.v 381, .v 509), (.v 382, .v 510), (.v 383, .v 511), (.v 384, .v 512), (.v 385, .v 513), (.v 386, .v 514), (.v 387, .v 515), (.v 388, .v 516), (.v 389, .v 517)], .cond 518 true, .need 88 [[.v 66, .v 67, .v 68, .v 69, .v 70, .v 71, .v 72, .v 73, .v 74, .v 75, .v 76, .v 77, .v 78, .v 79, .v 80, .v 81, .v 82, .v 83, .v 84, .v 85, .v 86, .v 87, .v 88, .v 89, .v 90, .v 91, .v 92, .v 93, .v 94, .v 95, .v 96, .v 357]], .call 519 88 [[.v 66, .v 67, .v 68, .v 69, .v 70, .v 71, .v 72, .v 73, .v 74, .v 75, .v 76, .v 77, .v 78, .v 79, .v 80, .v 81, .v 82, .v 83, .v 84, .v 85, .v 86, .v 87, .v 88, .v 89, .v 90, .v 91, .v 92, .v 93, .v 94, .v 95, .v 96, .v 357]] 1, .eqs 520 [(.v 99, .l 0), (.v 100, .l 0), (.v 101, .l 0), (.v 102, .l 0), (.v 103, .l 0), (.v 104, .l 0), (.v 105, .l 0), (.v 106, .l 0), (.v 107, .l 0), (.v 108, .l 0), (.v 109, .l 0), (.v 110, .l 0), (.v 111, .l 0), (.v 112, .l 0), (.v 113, .l 0), (.v 114, .l 0), (.v 115, .l 0), (.v 116, .l 0), (.v 117, .l 0), (.v 118, .l 0), (.v 119, .l 0), (.v 120, .l 0), (.v 121, .l 0), (.v 122, .l 0), (.v 123, .l 0), (.v 124, .l 0), (.v 125, .l 0), (.v 126, .l 0), (.v 127, .l 0), (.v 128, .l 0), (.v 129, .l 0), (.v 130, .l 0)], .not 521 (.v 520), .beq 522 false (.v 519) (.v 521)]) (refs := [.v 522]) (by kernel_rfl) fun ρ hρ hd => ?_
  have ea := seg0 la hρ
  simp only [D_nil, D_add, D_sub, D_mul, D_and, D_or, D_xor, D_shl, D_shr, D_andNot, D_quo, D_rem, D_add_i64, D_sub_i64, D_mul_i64, D_add_u32, D_sub_u32, D_mul_u32, D_add_u8, D_sub_u8, D_mul_u8, D_eql, D_neq, D_lss, D_leq, D_gtr, D_geq, D_not, D_conv, D_eqs, D_call, D_cond, D_need, D_idx, D_sel, D_upd, D_shv, D_beq, List.map_cons, List.map_nil, Ref.den] at hd
  obtain ⟨h32, h33, h34, h66, h99, h164, h165, h197, h229, h261, h293, h325, h357, h358, h390, h422, h454, h486, h518, h519, h520, h521, h522, -⟩ := hd
  have s32 : ρ 32 = 1 := h32 0 (by decide)
  have s34 : seg ρ 34 32 = pe BP := seg_of h34 (pe_len _)
  obtain ⟨s66, z66⟩ := two_of (pg_mul (n := seg ρ 0 32) (seg_len ρ 0 32) (by rw [ea]; exact dA) BP_on BP_cn) (fun i hi => by have : ρ (66 + i) = (pfns.g 94 [seg ρ 0 32, seg ρ 34 32]).getD i 0 := h66 i hi; rwa [s34] at this)
  obtain ⟨p, hp⟩ : ∃ p, p = (nm BP (dv 256 (seg ρ 0 32)).toNat) := ⟨_, rfl⟩
  have op : onC p := by rw [hp]; exact nm_on BP_on _
  have cp : cn p := by rw [hp]; exact nm_cn _
  rw [← hp] at s66
  have g99 : pfns.g 95 [seg ρ 66 32] = dg 256 32 p.1 ++ (dg 256 32 p.2 ++ [0]) := by rw [s66]; exact pg_at op cp
  have h99' : ∀ i, i < 65 → ρ (99 + i) = (dg 256 32 p.1 ++ (dg 256 32 p.2 ++ [0])).getD i 0 := fun i hi => by rw [← g99]; exact h99 i hi
  obtain ⟨s99, r99⟩ := splitN (R := dg 256 32 p.2 ++ [0]) (dg_len _ _ _) h99'
  obtain ⟨t99, u99⟩ := splitN (n := 131) (R := [0]) (dg_len 256 32 p.2) r99
  have s165 : seg ρ 165 32 = dg 256 32 (dv 256 (seg ρ 99 32) * dv 256 (seg ρ 99 32) % PP) := seg_of h165 (dg_len _ _ _)
  have s197 : seg ρ 197 32 = dg 256 32 (dv 256 (seg ρ 131 32) * dv 256 (seg ρ 131 32) % PP) := seg_of h197 (dg_len _ _ _)
  have s229 : seg ρ 229 32 = dg 256 32 ((-121665) % PP) := seg_of h229 (dg_len _ _ _)
  have s261 : seg ρ 261 32 = dg 256 32 ((121666) % PP) := seg_of h261 (dg_len _ _ _)
  have s293 : seg ρ 293 32 = dg 256 32 (powZ (dv 256 (seg ρ 261 32)) (PP - 2) 256 % PP) := seg_of h293 (dg_len _ _ _)
  have s325 : seg ρ 325 32 = dg 256 32 (dv 256 (seg ρ 229 32) * dv 256 (seg ρ 293 32) % PP) := seg_of h325 (dg_len _ _ _)
  have s358 : seg ρ 358 32 = dg 256 32 ((dv 256 (seg ρ 197 32) - dv 256 (seg ρ 165 32)) % PP) := seg_of h358 (dg_len _ _ _)
  have s390 : seg ρ 390 32 = dg 256 32 ((1) % PP) := seg_of h390 (dg_len _ _ _)
  have s422 : seg ρ 422 32 = dg 256 32 (dv 256 (seg ρ 165 32) * dv 256 (seg ρ 197 32) % PP) := seg_of h422 (dg_len _ _ _)
  have s454 : seg ρ 454 32 = dg 256 32 (dv 256 (seg ρ 325 32) * dv 256 (seg ρ 422 32) % PP) := seg_of h454 (dg_len _ _ _)
  have s486 : seg ρ 486 32 = dg 256 32 ((dv 256 (seg ρ 390 32) + dv 256 (seg ρ 454 32)) % PP) := seg_of h486 (dg_len _ _ _)
  have q518 : ρ 518 = b2i (decide (seg ρ 358 32 = seg ρ 486 32)) := h518.trans (congrArg b2i eqs_lists)
  have q520 : ρ 520 = b2i (decide (seg ρ 99 32 = [0, 0, 0, 0, 0, 0, 0, 0, 0, 0, 0, 0, 0, 0, 0, 0, 0, 0, 0, 0, 0, 0, 0, 0, 0, 0, 0, 0, 0, 0, 0, 0])) := h520.trans (congrArg b2i eqs_lists)
  have r98 : ρ 163 = 0 := u99 0 (by decide)
  have k164 := bit_false h164 (decide_eq_false (by rw [r98]; decide))
  have k33 := not_bit h33 s32
  have bx := cp.1
  have b_y := cp.2
  rw [s99, cv bx] at s165
  rw [t99, cv b_y] at s197
  rw [s165, s197, cv (rmod _), cv (rmod _)] at s358 s422
  rw [s261, cv (rmod _)] at s293
  rw [s229, s293, cv (rmod _), cv (rmod _), d_mod] at s325
  rw [s325, s422, cv (by decide), cv (rmod _)] at s454
  rw [s390, s454, show (1 : Int) % PP = 1 by decide, cv (by decide), cv (rmod _)] at s486
  have k518 := bit_true q518 (decide_eq_true (by rw [s358, s486]; exact congrArg _ (curve_eq op)))
  -- the other sign
  have dE : Dig 256 (seg ρ 66 32) := by rw [s66]; exact dg_dig (by decide) _ _
  obtain ⟨l1, l2, l3, l4⟩ := last_split (ρ := ρ) (o := 66) (A := enc p) (by rw [s66, pe_dv cp]) dE
  have l1 : dv 256 (seg ρ 66 31) + 256 ^ 31 * ρ 97 = enc p := l1
  have l3 : 0 ≤ ρ 97 ∧ ρ 97 < 256 := l3
  have e357 := xor128 l3 h357
  have vb : dv 256 (seg ρ 66 31 ++ [ρ 357]) = if 128 ≤ ρ 97 then enc p - H255 else enc p + H255 := by
    rw [dv_last, seg_len, e357, ← h31.1, ← l1]
    split
    · rw [show (ρ 97 + 128) % 256 = ρ 97 - 128 by omega, Int.mul_sub]; omega
    · rw [show (ρ 97 + 128) % 256 = ρ 97 + 128 by omega, Int.mul_add]; omega
  have hs : 128 ≤ ρ 97 ↔ p.1 % 2 = 1 := by
    obtain ⟨d1, d2, -⟩ := enc_div cp
    have hb : p.1 % 2 = 0 ∨ p.1 % 2 = 1 := by omega
    have hy : p.2 < H255 := by omega
    have he : enc p = p.2 + H255 * (p.1 % 2) := rfl
    constructor
    · intro h
      rcases hb with hb | hb
      · exfalso
        rw [hb, Int.mul_zero] at he
        have := Int.mul_le_mul_of_nonneg_left h (show (0 : Int) ≤ 256 ^ 31 by omega)
        omega
      · exact hb
    · intro h
      rcases Int.lt_or_le (ρ 97) 128 with h' | h'
      · exfalso
        rw [h, Int.mul_one] at he
        have := Int.mul_le_mul_of_nonneg_left (show ρ 97 ≤ 127 by omega) (show (0 : Int) ≤ 256 ^ 31 by omega)
        omega
      · exact h'
  have s519 : ρ 519 = b2i (decide (decOK (dv 256 (seg ρ 66 31 ++ [ρ 357])))) := h519 0 (by decide)
  rw [vb] at s519
  have key : decOK (if 128 ≤ ρ 97 then enc p - H255 else enc p + H255) ↔ p.1 ≠ 0 := by
    by_cases c : p.1 = 0
    · have h97 : ¬ 128 ≤ ρ 97 := fun h => by have := hs.1 h; omega
      rw [if_neg h97]
      exact ⟨fun h => absurd h (dec_flip0 op cp c), fun h => absurd c h⟩
    · refine ⟨fun _ => c, fun _ => ?_⟩
      have e : (if 128 ≤ ρ 97 then enc p - H255 else enc p + H255) = enc (pneg p) := by
        rw [enc_neg cp c]
        by_cases h : 128 ≤ ρ 97
        · rw [if_pos h, if_pos (hs.1 h)]
        · rw [if_neg h, if_neg (fun h' => h (hs.2 h'))]
      rw [e]; exact (dec_enc (pneg_on op) (pneg_cn cp)).1
  have hz : seg ρ 99 32 = [0, 0, 0, 0, 0, 0, 0, 0, 0, 0, 0, 0, 0, 0, 0, 0, 0, 0, 0, 0, 0, 0, 0, 0, 0, 0, 0, 0, 0, 0, 0, 0] ↔ p.1 = 0 := by
    rw [s99]
    constructor
    · intro h
      have := congrArg (dv 256) h
      rw [cv bx] at this
      rw [this]; decide
    · intro h; rw [h]; decide
  have k522 : ρ 522 = 1 := by
    refine pbeq_one h522 ?_
    have q1 := b2i_dec (p.1 ≠ 0) (s519.trans (b2i_congr key))
    have q2 := b2i_dec (p.1 = 0) (q520.trans (b2i_congr hz))
    rcases q2 with ⟨h, h2⟩ | ⟨h, h2⟩
    · rw [show ρ 521 = 0 from pnot1 h521 h2]
      rcases q1 with ⟨h3, _⟩ | ⟨_, h3⟩
      · exact absurd h h3
      · rw [h3]
    · rw [show ρ 521 = 1 from not_bit0 h521 h2]
      rcases q1 with ⟨_, h3⟩ | ⟨h3, _⟩
      · rw [h3]
      · exact absurd h h3
  refine ⟨by simp only [G_nil, G_bin, G_cmp, G_not, G_conv, G_eqs, G_call, G_cond, G_need, G_idx, G_sel, G_upd, G_shv, G_beq, List.map_cons, List.map_nil, Ref.den]; exact ⟨trivial, k33, trivial, trivial, trivial, k164, trivial, trivial, trivial, trivial, trivial, trivial, trivial, trivial, trivial, trivial, trivial, k518, trivial, trivial⟩, ?_⟩
  show [ρ 522] = [1]
  rw [k522]
#print axioms okCurve
end Go.Proofs.Ytfobnajgnnccmaa
namespace Go.Proofs.Ytfobnajgnnccmaa.pointCurve
open Go.RowKit Go.Bx Go.Sx
theorem walk (a : List UInt8) (na : a.length = 32) (w : World) :
    Calls Try.prog 5 #[.agg (bvs a).toArray] w fun e w' => e = .returned (.bool true) ∧ Below w.heap.size w w' :=
  CtrOK.calls okCurve (fn := Try.f5) (body := (Try.f5).body.getD .skip) (by kernel_rfl) (by kernel_rfl) (by kernel_rfl) rfl (xs := [(a.map fun b => (b.toNat : Int))]) rfl trivial ⟨arg_u8 a na, trivial⟩
end Go.Proofs.Ytfobnajgnnccmaa.pointCurve
