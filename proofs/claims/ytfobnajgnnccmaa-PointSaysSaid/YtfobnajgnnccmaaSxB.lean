/- Eight bytes of a word, read and written. No condition. -/
import Derived.Test.YtfobnajgnnccmaaSxD
namespace Go.Sx
open Go Go.RowKit Go.Bx
set_option linter.unusedVariables false
theorem bytes8 {x0 x1 x2 x3 x4 x5 x6 x7 c0 c1 c2 c3 c4 c5 c6 c7 s0 s1 s2 s3 s4 s5 s6 s7 o0 o1 o2 o3 o4 o5 o6 o7 : Int}
    (hx0 : 0 ≤ x0 ∧ x0 < 256) (hc0 : c0 = IntKind.u64.wrap x0) (hs0 : binZ .shl .u64 c0 0 = some s0) (ho0 : binZ .or .u64 0 s0 = some o0)
    (hx1 : 0 ≤ x1 ∧ x1 < 256) (hc1 : c1 = IntKind.u64.wrap x1) (hs1 : binZ .shl .u64 c1 8 = some s1) (ho1 : binZ .or .u64 o0 s1 = some o1)
    (hx2 : 0 ≤ x2 ∧ x2 < 256) (hc2 : c2 = IntKind.u64.wrap x2) (hs2 : binZ .shl .u64 c2 16 = some s2) (ho2 : binZ .or .u64 o1 s2 = some o2)
    (hx3 : 0 ≤ x3 ∧ x3 < 256) (hc3 : c3 = IntKind.u64.wrap x3) (hs3 : binZ .shl .u64 c3 24 = some s3) (ho3 : binZ .or .u64 o2 s3 = some o3)
    (hx4 : 0 ≤ x4 ∧ x4 < 256) (hc4 : c4 = IntKind.u64.wrap x4) (hs4 : binZ .shl .u64 c4 32 = some s4) (ho4 : binZ .or .u64 o3 s4 = some o4)
    (hx5 : 0 ≤ x5 ∧ x5 < 256) (hc5 : c5 = IntKind.u64.wrap x5) (hs5 : binZ .shl .u64 c5 40 = some s5) (ho5 : binZ .or .u64 o4 s5 = some o5)
    (hx6 : 0 ≤ x6 ∧ x6 < 256) (hc6 : c6 = IntKind.u64.wrap x6) (hs6 : binZ .shl .u64 c6 48 = some s6) (ho6 : binZ .or .u64 o5 s6 = some o6)
    (hx7 : 0 ≤ x7 ∧ x7 < 256) (hc7 : c7 = IntKind.u64.wrap x7) (hs7 : binZ .shl .u64 c7 56 = some s7) (ho7 : binZ .or .u64 o6 s7 = some o7)
    : o7 = dv 256 [x0, x1, x2, x3, x4, x5, x6, x7] ∧ 0 ≤ o7 ∧ o7 < 18446744073709551616 := by
  have b0 := byte_more 0 (by decide) hx0 hc0 hs0 rfl ⟨by decide, by decide⟩ ho0
  have b1 := byte_more 1 (by decide) hx1 hc1 hs1 rfl b0.2 ho1
  have b2 := byte_more 2 (by decide) hx2 hc2 hs2 rfl b1.2 ho2
  have b3 := byte_more 3 (by decide) hx3 hc3 hs3 rfl b2.2 ho3
  have b4 := byte_more 4 (by decide) hx4 hc4 hs4 rfl b3.2 ho4
  have b5 := byte_more 5 (by decide) hx5 hc5 hs5 rfl b4.2 ho5
  have b6 := byte_more 6 (by decide) hx6 hc6 hs6 rfl b5.2 ho6
  have b7 := byte_more 7 (by decide) hx7 hc7 hs7 rfl b6.2 ho7
  clear hc0 hs0 ho0 hc1 hs1 ho1 hc2 hs2 ho2 hc3 hs3 ho3 hc4 hs4 ho4 hc5 hs5 ho5 hc6 hs6 ho6 hc7 hs7 ho7
  simp only [Int.reducePow, Nat.reduceAdd] at b0 b1 b2 b3 b4 b5 b6 b7
  refine ⟨?_, b7.2⟩
  simp only [dv]
  omega
theorem of_bytes (l0 l1 l2 l3 : List Int) (h0 : l0.length = 8) (h1 : l1.length = 8) (h2 : l2.length = 8) (h3 : l3.length = 8) (m : Int) :
    dv 256 l0 + 18446744073709551616 * (dv 256 l1 + 18446744073709551616 * (dv 256 l2 + 18446744073709551616 * (dv 256 l3 + 18446744073709551616 * m))) = dv 256 (l0 ++ (l1 ++ (l2 ++ l3))) + 256 ^ 32 * m := by
  rw [dv_append, dv_append, dv_append, h0, h1, h2]
  simp only [Int.reducePow]
  omega
end Go.Sx
