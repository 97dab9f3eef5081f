/- Numbers modulo L, the paper's own functions: what is shown of product. No condition. -/
import Derived.Test.YtokndemdmkaofaaRk1
import Derived.Test.YtokndemdmkaofaaSxN
namespace Go.Proofs.Ytokndemdmkaofaa
open Go.RowKit Go.Bx Go.Sx
set_option linter.unusedSimpArgs false
set_option maxRecDepth 100000
def cProd : Ctr := ⟨54, 53, [.arr .u8 32, .arr .u8 32], [.row .u8 5 64]⟩
noncomputable def prT : LoopT := ⟨[.any, .any, .c (.ptr 0 0), .c (.ptr 1 0), .c (.nils), .c (.ptr 2 0), .c (.int .i64 (.v 0)), .any, .any, .any, .any, .any, .any, .any, .any, .any, .any, .any, .any, .any, .any, .any, .any, .any, .any, .any, .any, .any, .any, .any, .any, .any, .any, .any, .any, .any, .any, .any, .any, .any, .any, .any, .any, .any, .any, .any, .any, .any, .any, .any, .any, .any, .any, .any, .any, .any, .any, .any, .any, .any, .any, .any, .any, .any, .any, .any, .any, .any, .any, .any, .any, .any, .any], [some ⟨33, [.int .u8 (.v 1), .int .u8 (.v 2), .int .u8 (.v 3), .int .u8 (.v 4), .int .u8 (.v 5), .int .u8 (.v 6), .int .u8 (.v 7), .int .u8 (.v 8), .int .u8 (.v 9), .int .u8 (.v 10), .int .u8 (.v 11), .int .u8 (.v 12), .int .u8 (.v 13), .int .u8 (.v 14), .int .u8 (.v 15), .int .u8 (.v 16), .int .u8 (.v 17), .int .u8 (.v 18), .int .u8 (.v 19), .int .u8 (.v 20), .int .u8 (.v 21), .int .u8 (.v 22), .int .u8 (.v 23), .int .u8 (.v 24), .int .u8 (.v 25), .int .u8 (.v 26), .int .u8 (.v 27), .int .u8 (.v 28), .int .u8 (.v 29), .int .u8 (.v 30), .int .u8 (.v 31), .int .u8 (.v 32)]⟩, some ⟨33, [.int .u8 (.v 33), .int .u8 (.v 34), .int .u8 (.v 35), .int .u8 (.v 36), .int .u8 (.v 37), .int .u8 (.v 38), .int .u8 (.v 39), .int .u8 (.v 40), .int .u8 (.v 41), .int .u8 (.v 42), .int .u8 (.v 43), .int .u8 (.v 44), .int .u8 (.v 45), .int .u8 (.v 46), .int .u8 (.v 47), .int .u8 (.v 48), .int .u8 (.v 49), .int .u8 (.v 50), .int .u8 (.v 51), .int .u8 (.v 52), .int .u8 (.v 53), .int .u8 (.v 54), .int .u8 (.v 55), .int .u8 (.v 56), .int .u8 (.v 57), .int .u8 (.v 58), .int .u8 (.v 59), .int .u8 (.v 60), .int .u8 (.v 61), .int .u8 (.v 62), .int .u8 (.v 63), .int .u8 (.v 64)]⟩, some ⟨81, [.int .i64 (.v 65), .int .i64 (.v 66), .int .i64 (.v 67), .int .i64 (.v 68), .int .i64 (.v 69), .int .i64 (.v 70), .int .i64 (.v 71), .int .i64 (.v 72), .int .i64 (.v 73), .int .i64 (.v 74), .int .i64 (.v 75), .int .i64 (.v 76), .int .i64 (.v 77), .int .i64 (.v 78), .int .i64 (.v 79), .int .i64 (.v 80), .int .i64 (.v 81), .int .i64 (.v 82), .int .i64 (.v 83), .int .i64 (.v 84), .int .i64 (.v 85), .int .i64 (.v 86), .int .i64 (.v 87), .int .i64 (.v 88), .int .i64 (.v 89), .int .i64 (.v 90), .int .i64 (.v 91), .int .i64 (.v 92), .int .i64 (.v 93), .int .i64 (.v 94), .int .i64 (.v 95), .int .i64 (.v 96), .int .i64 (.v 97), .int .i64 (.v 98), .int .i64 (.v 99), .int .i64 (.v 100), .int .i64 (.v 101), .int .i64 (.v 102), .int .i64 (.v 103), .int .i64 (.v 104), .int .i64 (.v 105), .int .i64 (.v 106), .int .i64 (.v 107), .int .i64 (.v 108), .int .i64 (.v 109), .int .i64 (.v 110), .int .i64 (.v 111), .int .i64 (.v 112), .int .i64 (.v 113), .int .i64 (.v 114), .int .i64 (.v 115), .int .i64 (.v 116), .int .i64 (.v 117), .int .i64 (.v 118), .int .i64 (.v 119), .int .i64 (.v 120), .int .i64 (.v 121), .int .i64 (.v 122), .int .i64 (.v 123), .int .i64 (.v 124), .int .i64 (.v 125), .int .i64 (.v 126), .int .i64 (.v 127), .int .i64 (.v 128), .int .i64 (.v 129)]⟩], 130, 34, 0, [.l 0, .v 0, .v 1, .v 2, .v 3, .v 4, .v 5, .v 6, .v 7, .v 8, .v 9, .v 10, .v 11, .v 12, .v 13, .v 14, .v 15, .v 16, .v 17, .v 18, .v 19, .v 20, .v 21, .v 22, .v 23, .v 24, .v 25, .v 26, .v 27, .v 28, .v 29, .v 30, .v 31, .v 32, .v 33, .v 34, .v 35, .v 36, .v 37, .v 38, .v 39, .v 40, .v 41, .v 42, .v 43, .v 44, .v 45, .v 46, .v 47, .v 48, .v 49, .v 50, .v 51, .v 52, .v 53, .v 54, .v 55, .v 56, .v 57, .v 58, .v 59, .v 60, .v 61, .v 62, .v 63, .l 0, .l 0, .l 0, .l 0, .l 0, .l 0, .l 0, .l 0, .l 0, .l 0, .l 0, .l 0, .l 0, .l 0, .l 0, .l 0, .l 0, .l 0, .l 0, .l 0, .l 0, .l 0, .l 0, .l 0, .l 0, .l 0, .l 0, .l 0, .l 0, .l 0, .l 0, .l 0, .l 0, .l 0, .l 0, .l 0, .l 0, .l 0, .l 0, .l 0, .l 0, .l 0, .l 0, .l 0, .l 0, .l 0, .l 0, .l 0, .l 0, .l 0, .l 0, .l 0, .l 0, .l 0, .l 0, .l 0, .l 0, .l 0, .l 0, .l 0, .l 0, .l 0, .l 0, .l 0, .l 0]⟩
noncomputable def prA : LoopT := ⟨[.any, .any, .c (.ptr 0 0), .c (.ptr 1 0), .c (.nils), .c (.ptr 2 0), .c (.int .i64 (.v 0)), .c (.int .i64 (.v 1)), .any, .any, .any, .any, .any, .any, .any, .any, .any, .any, .any, .any, .any, .any, .any, .any, .any, .any, .any, .any, .any, .any, .any, .any, .any, .any, .any, .any, .any, .any, .any, .any, .any, .any, .any, .any, .any, .any, .any, .any, .any, .any, .any, .any, .any, .any, .any, .any, .any, .any, .any, .any, .any, .any, .any, .any, .any, .any, .any, .any, .any, .any, .any, .any, .any], [some ⟨33, [.int .u8 (.v 2), .int .u8 (.v 3), .int .u8 (.v 4), .int .u8 (.v 5), .int .u8 (.v 6), .int .u8 (.v 7), .int .u8 (.v 8), .int .u8 (.v 9), .int .u8 (.v 10), .int .u8 (.v 11), .int .u8 (.v 12), .int .u8 (.v 13), .int .u8 (.v 14), .int .u8 (.v 15), .int .u8 (.v 16), .int .u8 (.v 17), .int .u8 (.v 18), .int .u8 (.v 19), .int .u8 (.v 20), .int .u8 (.v 21), .int .u8 (.v 22), .int .u8 (.v 23), .int .u8 (.v 24), .int .u8 (.v 25), .int .u8 (.v 26), .int .u8 (.v 27), .int .u8 (.v 28), .int .u8 (.v 29), .int .u8 (.v 30), .int .u8 (.v 31), .int .u8 (.v 32), .int .u8 (.v 33)]⟩, some ⟨33, [.int .u8 (.v 34), .int .u8 (.v 35), .int .u8 (.v 36), .int .u8 (.v 37), .int .u8 (.v 38), .int .u8 (.v 39), .int .u8 (.v 40), .int .u8 (.v 41), .int .u8 (.v 42), .int .u8 (.v 43), .int .u8 (.v 44), .int .u8 (.v 45), .int .u8 (.v 46), .int .u8 (.v 47), .int .u8 (.v 48), .int .u8 (.v 49), .int .u8 (.v 50), .int .u8 (.v 51), .int .u8 (.v 52), .int .u8 (.v 53), .int .u8 (.v 54), .int .u8 (.v 55), .int .u8 (.v 56), .int .u8 (.v 57), .int .u8 (.v 58), .int .u8 (.v 59), .int .u8 (.v 60), .int .u8 (.v 61), .int .u8 (.v 62), .int .u8 (.v 63), .int .u8 (.v 64), .int .u8 (.v 65)]⟩, some ⟨81, [.int .i64 (.v 66), .int .i64 (.v 67), .int .i64 (.v 68), .int .i64 (.v 69), .int .i64 (.v 70), .int .i64 (.v 71), .int .i64 (.v 72), .int .i64 (.v 73), .int .i64 (.v 74), .int .i64 (.v 75), .int .i64 (.v 76), .int .i64 (.v 77), .int .i64 (.v 78), .int .i64 (.v 79), .int .i64 (.v 80), .int .i64 (.v 81), .int .i64 (.v 82), .int .i64 (.v 83), .int .i64 (.v 84), .int .i64 (.v 85), .int .i64 (.v 86), .int .i64 (.v 87), .int .i64 (.v 88), .int .i64 (.v 89), .int .i64 (.v 90), .int .i64 (.v 91), .int .i64 (.v 92), .int .i64 (.v 93), .int .i64 (.v 94), .int .i64 (.v 95), .int .i64 (.v 96), .int .i64 (.v 97), .int .i64 (.v 98), .int .i64 (.v 99), .int .i64 (.v 100), .int .i64 (.v 101), .int .i64 (.v 102), .int .i64 (.v 103), .int .i64 (.v 104), .int .i64 (.v 105), .int .i64 (.v 106), .int .i64 (.v 107), .int .i64 (.v 108), .int .i64 (.v 109), .int .i64 (.v 110), .int .i64 (.v 111), .int .i64 (.v 112), .int .i64 (.v 113), .int .i64 (.v 114), .int .i64 (.v 115), .int .i64 (.v 116), .int .i64 (.v 117), .int .i64 (.v 118), .int .i64 (.v 119), .int .i64 (.v 120), .int .i64 (.v 121), .int .i64 (.v 122), .int .i64 (.v 123), .int .i64 (.v 124), .int .i64 (.v 125), .int .i64 (.v 126), .int .i64 (.v 127), .int .i64 (.v 128), .int .i64 (.v 129), .int .i64 (.v 130)]⟩], 131, 35, 2, [.v 0, .l 0, .v 1, .v 2, .v 3, .v 4, .v 5, .v 6, .v 7, .v 8, .v 9, .v 10, .v 11, .v 12, .v 13, .v 14, .v 15, .v 16, .v 17, .v 18, .v 19, .v 20, .v 21, .v 22, .v 23, .v 24, .v 25, .v 26, .v 27, .v 28, .v 29, .v 30, .v 31, .v 32, .v 33, .v 34, .v 35, .v 36, .v 37, .v 38, .v 39, .v 40, .v 41, .v 42, .v 43, .v 44, .v 45, .v 46, .v 47, .v 48, .v 49, .v 50, .v 51, .v 52, .v 53, .v 54, .v 55, .v 56, .v 57, .v 58, .v 59, .v 60, .v 61, .v 62, .v 63, .v 64, .v 65, .v 66, .v 67, .v 68, .v 69, .v 70, .v 71, .v 72, .v 73, .v 74, .v 75, .v 76, .v 77, .v 78, .v 79, .v 80, .v 81, .v 82, .v 83, .v 84, .v 85, .v 86, .v 87, .v 88, .v 89, .v 90, .v 91, .v 92, .v 93, .v 94, .v 95, .v 96, .v 97, .v 98, .v 99, .v 100, .v 101, .v 102, .v 103, .v 104, .v 105, .v 106, .v 107, .v 108, .v 109, .v 110, .v 111, .v 112, .v 113, .v 114, .v 115, .v 116, .v 117, .v 118, .v 119, .v 120, .v 121, .v 122, .v 123, .v 124, .v 125, .v 126, .v 127, .v 128, .v 129]⟩
noncomputable def prB : LoopT := ⟨[.any, .any, .c (.ptr 0 0), .c (.ptr 1 0), .c (.nils), .c (.ptr 2 0), .c (.int .i64 (.v 0)), .any, .c (.int .i64 (.v 1)), .any, .any, .any, .any, .any, .any, .any, .any, .any, .any, .any, .any, .any, .any, .any, .any, .any, .any, .any, .any, .any, .any, .any, .any, .any, .any, .any, .any, .any, .any, .any, .any, .any, .any, .any, .any, .any, .any, .any, .any, .any, .any, .any, .any, .any, .any, .any, .any, .any, .any, .any, .any, .any, .any, .any, .any, .any, .any, .any, .any, .any, .any, .any, .any], [some ⟨33, [.int .u8 (.v 2), .int .u8 (.v 3), .int .u8 (.v 4), .int .u8 (.v 5), .int .u8 (.v 6), .int .u8 (.v 7), .int .u8 (.v 8), .int .u8 (.v 9), .int .u8 (.v 10), .int .u8 (.v 11), .int .u8 (.v 12), .int .u8 (.v 13), .int .u8 (.v 14), .int .u8 (.v 15), .int .u8 (.v 16), .int .u8 (.v 17), .int .u8 (.v 18), .int .u8 (.v 19), .int .u8 (.v 20), .int .u8 (.v 21), .int .u8 (.v 22), .int .u8 (.v 23), .int .u8 (.v 24), .int .u8 (.v 25), .int .u8 (.v 26), .int .u8 (.v 27), .int .u8 (.v 28), .int .u8 (.v 29), .int .u8 (.v 30), .int .u8 (.v 31), .int .u8 (.v 32), .int .u8 (.v 33)]⟩, some ⟨33, [.int .u8 (.v 34), .int .u8 (.v 35), .int .u8 (.v 36), .int .u8 (.v 37), .int .u8 (.v 38), .int .u8 (.v 39), .int .u8 (.v 40), .int .u8 (.v 41), .int .u8 (.v 42), .int .u8 (.v 43), .int .u8 (.v 44), .int .u8 (.v 45), .int .u8 (.v 46), .int .u8 (.v 47), .int .u8 (.v 48), .int .u8 (.v 49), .int .u8 (.v 50), .int .u8 (.v 51), .int .u8 (.v 52), .int .u8 (.v 53), .int .u8 (.v 54), .int .u8 (.v 55), .int .u8 (.v 56), .int .u8 (.v 57), .int .u8 (.v 58), .int .u8 (.v 59), .int .u8 (.v 60), .int .u8 (.v 61), .int .u8 (.v 62), .int .u8 (.v 63), .int .u8 (.v 64), .int .u8 (.v 65)]⟩, some ⟨81, [.int .i64 (.v 66), .int .i64 (.v 67), .int .i64 (.v 68), .int .i64 (.v 69), .int .i64 (.v 70), .int .i64 (.v 71), .int .i64 (.v 72), .int .i64 (.v 73), .int .i64 (.v 74), .int .i64 (.v 75), .int .i64 (.v 76), .int .i64 (.v 77), .int .i64 (.v 78), .int .i64 (.v 79), .int .i64 (.v 80), .int .i64 (.v 81), .int .i64 (.v 82), .int .i64 (.v 83), .int .i64 (.v 84), .int .i64 (.v 85), .int .i64 (.v 86), .int .i64 (.v 87), .int .i64 (.v 88), .int .i64 (.v 89), .int .i64 (.v 90), .int .i64 (.v 91), .int .i64 (.v 92), .int .i64 (.v 93), .int .i64 (.v 94), .int .i64 (.v 95), .int .i64 (.v 96), .int .i64 (.v 97), .int .i64 (.v 98), .int .i64 (.v 99), .int .i64 (.v 100), .int .i64 (.v 101), .int .i64 (.v 102), .int .i64 (.v 103), .int .i64 (.v 104), .int .i64 (.v 105), .int .i64 (.v 106), .int .i64 (.v 107), .int .i64 (.v 108), .int .i64 (.v 109), .int .i64 (.v 110), .int .i64 (.v 111), .int .i64 (.v 112), .int .i64 (.v 113), .int .i64 (.v 114), .int .i64 (.v 115), .int .i64 (.v 116), .int .i64 (.v 117), .int .i64 (.v 118), .int .i64 (.v 119), .int .i64 (.v 120), .int .i64 (.v 121), .int .i64 (.v 122), .int .i64 (.v 123), .int .i64 (.v 124), .int .i64 (.v 125), .int .i64 (.v 126), .int .i64 (.v 127), .int .i64 (.v 128), .int .i64 (.v 129), .int .i64 (.v 130)]⟩], 131, 36, 4, [.v 131, .l 0, .v 133, .v 134, .v 135, .v 136, .v 137, .v 138, .v 139, .v 140, .v 141, .v 142, .v 143, .v 144, .v 145, .v 146, .v 147, .v 148, .v 149, .v 150, .v 151, .v 152, .v 153, .v 154, .v 155, .v 156, .v 157, .v 158, .v 159, .v 160, .v 161, .v 162, .v 163, .v 164, .v 165, .v 166, .v 167, .v 168, .v 169, .v 170, .v 171, .v 172, .v 173, .v 174, .v 175, .v 176, .v 177, .v 178, .v 179, .v 180, .v 181, .v 182, .v 183, .v 184, .v 185, .v 186, .v 187, .v 188, .v 189, .v 190, .v 191, .v 192, .v 193, .v 194, .v 195, .v 196, .v 197, .v 198, .v 199, .v 200, .v 201, .v 202, .v 203, .v 204, .v 205, .v 206, .v 207, .v 208, .v 209, .v 210, .v 211, .v 212, .v 213, .v 214, .v 215, .v 216, .v 217, .v 218, .v 219, .v 220, .v 221, .v 222, .v 223, .v 224, .v 225, .v 226, .v 227, .v 228, .v 229, .v 230, .v 231, .v 232, .v 233, .v 234, .v 235, .v 236, .v 237, .v 238, .v 239, .v 240, .v 241, .v 242, .v 243, .v 244, .v 245, .v 246, .v 247, .v 248, .v 249, .v 250, .v 251, .v 252, .v 253, .v 254, .v 255, .v 256, .v 257, .v 258, .v 259, .v 260, .v 261]⟩
noncomputable def prBody : Code := (Try.f54).body.getD .skip
noncomputable def prIn : Code := (loopAt 0 prBody).getD .skip
theorem seg_sp (ρ : Nat → Int) (a n m : Nat) : seg ρ a (n + m) = seg ρ a n ++ seg ρ (a + n) m := by
  unfold seg
  rw [List.range_add, List.map_append, List.map_map]
  congr 1
  exact List.map_congr_left fun i _ => by simp [Nat.add_assoc]
theorem pr_list (ρ : Nat → Int) : seg ρ 0 131 = [ρ 0, ρ 1] ++ (seg ρ 2 64 ++ seg ρ 66 65) := rfl
theorem pr_get (ρ : Nat → Int) {i : Nat} (hi : i < 131) : ρ i = ([ρ 0, ρ 1] ++ (seg ρ 2 64 ++ seg ρ 66 65)).getD i 0 := by
  rw [← pr_list, seg_get hi, Nat.zero_add]
theorem pr_get' (ρ : Nat → Int) {i : Nat} (hi : i < 130) : ρ i = ([ρ 0] ++ (seg ρ 1 64 ++ seg ρ 65 65)).getD i 0 := by
  rw [show [ρ 0] ++ (seg ρ 1 64 ++ seg ρ 65 65) = seg ρ 0 130 from rfl, seg_get hi, Nat.zero_add]
theorem pr_dig {ρ : Nat → Int} (hT : TOk prA.slT prA.memT ρ) : Dig 256 (seg ρ 2 32) ∧ Dig 256 (seg ρ 34 32) := by
  have h1 : ∀ c ∈ (List.range 32).map (fun i => C.int .u8 (.v (2 + i))), C.inr ρ c := hT.m _ (List.mem_cons_self ..)
  have h2 : ∀ c ∈ (List.range 32).map (fun i => C.int .u8 (.v (34 + i))), C.inr ρ c := hT.m _ (List.mem_cons_of_mem _ (List.mem_cons_self ..))
  exact ⟨dig8s (seg_inr h1), dig8s (seg_inr h2)⟩
/-- One row: the state, so far. -/
def rowI (ρ0 ρ : Nat → Int) : Prop :=
  ρ 0 = ρ0 0 ∧ 0 ≤ ρ0 0 ∧ ρ0 0 < 32 ∧ 0 ≤ ρ 1 ∧ ρ 1 ≤ 32 ∧ seg ρ 2 64 = seg ρ0 2 64 ∧ Small 65536 (seg ρ0 66 65) ∧ seg ρ 66 65 = addRow (ρ0 0).toNat (ρ 1).toNat (seg ρ0 2 32) (seg ρ0 34 32) (seg ρ0 66 65)
theorem after2 {a b : Int} {A B : List Int} (lA : A.length = 64) (lB : B.length = 65) {x' : Nat → Int} (hx : x' = fun j => ([a, b] ++ (A ++ B)).getD j 0) : x' 0 = a ∧ x' 1 = b ∧ seg x' 2 64 = A ∧ seg x' 66 65 = B := by
  refine ⟨by rw [hx]; rfl, by rw [hx]; rfl, ?_, ?_⟩
  · have := seg_mid [a, b] A B
    rw [lA] at this; rw [hx]; exact this
  · have := seg_end [a, b] A B
    rw [lA, lB] at this; rw [hx]; exact this
theorem halves {ρ ρ' : Nat → Int} {o o' : Nat} (h : seg ρ o 64 = seg ρ' o' 64) : seg ρ o 32 = seg ρ' o' 32 ∧ seg ρ (o + 32) 32 = seg ρ' (o' + 32) 32 := by
  rw [seg_sp ρ o 32 32, seg_sp ρ' o' 32 32] at h
  exact List.append_inj h (by rw [seg_len, seg_len])
theorem row_go {cl : Code} (hb : loopAt 0 prIn = some cl) {ρ0 ρT : Nat → Int} (hT : TOk prA.slT prA.memT ρT) (hI : rowI ρ0 ρT) (hlt : ρT 1 < 32) :
    ∃ e x', RoundEnd Try.prog sfns (callN Try.prog [] 300 5) 300 cl prA.slT prA.memT prA.m ρT e x' ∧ ((e = .normal ∧ rowI ρ0 x' ∧ (32 - x' 1).toNat < (32 - ρT 1).toNat) ∨ (e = .exit prA.xid ∧ ∀ i, i < prA.m → x' i = (sfns.g prA.j [xs prA.m ρ0]).getD i 0)) := by
  obtain ⟨dA, dB⟩ := pr_dig hT
  obtain ⟨i1, i2, i3, i4, i5, i6, i7, i8⟩ := hI
  obtain ⟨i, hi⟩ := Int.eq_ofNat_of_zero_le i2
  obtain ⟨k, hk0⟩ := Int.eq_ofNat_of_zero_le i4
  have hi' : (ρ0 0).toNat = i := by omega
  have hk' : (ρT 1).toNat = k := by omega
  obtain ⟨hA, hB⟩ := halves i6
  have hB : seg ρT 34 32 = seg ρ0 34 32 := hB
  rw [hi', hk'] at i8
  have lt0 : (seg ρ0 66 65).length = 65 := seg_len _ _ _
  have a0 : 0 ≤ (seg ρ0 2 32).getD i 0 ∧ (seg ρ0 2 32).getD i 0 < 256 := by rw [← hA]; exact dA.d _ (getD_mem (by rw [seg_len]; omega))
  have b0 : 0 ≤ (seg ρ0 34 32).getD k 0 ∧ (seg ρ0 34 32).getD k 0 < 256 := by rw [← hB]; exact dB.d _ (getD_mem (by rw [seg_len]; omega))
  have m0 := Int.mul_nonneg a0.1 b0.1
  have m1 : (seg ρ0 2 32).getD i 0 * (seg ρ0 34 32).getD k 0 ≤ 255 * 255 := Int.mul_le_mul (by omega) (by omega) b0.1 (by decide)
  have t0 := small_get i7 (p := i + k) (by omega)
  have ht : (addRow i k (seg ρ0 2 32) (seg ρ0 34 32) (seg ρ0 66 65)).getD (i + k) 0 = (seg ρ0 66 65).getD (i + k) 0 := by rw [addRow_get (by omega), if_neg (by omega), Int.add_zero]
  have hk : roundB Try.prog [] 300 5 (loopAt 0 prIn) prA [true] none [.cmp 131 .lss (.v 1) (.l 32), .cond 131 true, .bin 132 .add .i64 (.v 0) (.v 1), .bin 133 .add .i64 (.v 0) (.v 1), .idx 133 65, .sel 134 [.v 66, .v 67, .v 68, .v 69, .v 70, .v 71, .v 72, .v 73, .v 74, .v 75, .v 76, .v 77, .v 78, .v 79, .v 80, .v 81, .v 82, .v 83, .v 84, .v 85, .v 86, .v 87, .v 88, .v 89, .v 90, .v 91, .v 92, .v 93, .v 94, .v 95, .v 96, .v 97, .v 98, .v 99, .v 100, .v 101, .v 102, .v 103, .v 104, .v 105, .v 106, .v 107, .v 108, .v 109, .v 110, .v 111, .v 112, .v 113, .v 114, .v 115, .v 116, .v 117, .v 118, .v 119, .v 120, .v 121, .v 122, .v 123, .v 124, .v 125, .v 126, .v 127, .v 128, .v 129, .v 130] 133, .idx 0 32, .sel 135 [.v 2, .v 3, .v 4, .v 5, .v 6, .v 7, .v 8, .v 9, .v 10, .v 11, .v 12, .v 13, .v 14, .v 15, .v 16, .v 17, .v 18, .v 19, .v 20, .v 21, .v 22, .v 23, .v 24, .v 25, .v 26, .v 27, .v 28, .v 29, .v 30, .v 31, .v 32, .v 33] 0, .conv 136 .i64 (.v 135), .idx 1 32, .sel 137 [.v 34, .v 35, .v 36, .v 37, .v 38, .v 39, .v 40, .v 41, .v 42, .v 43, .v 44, .v 45, .v 46, .v 47, .v 48, .v 49, .v 50, .v 51, .v 52, .v 53, .v 54, .v 55, .v 56, .v 57, .v 58, .v 59, .v 60, .v 61, .v 62, .v 63, .v 64, .v 65] 1, .conv 138 .i64 (.v 137), .bin 139 .mul .i64 (.v 136) (.v 138), .bin 140 .add .i64 (.v 134) (.v 139), .idx 132 65, .upd 141 [.v 66, .v 67, .v 68, .v 69, .v 70, .v 71, .v 72, .v 73, .v 74, .v 75, .v 76, .v 77, .v 78, .v 79, .v 80, .v 81, .v 82, .v 83, .v 84, .v 85, .v 86, .v 87, .v 88, .v 89, .v 90, .v 91, .v 92, .v 93, .v 94, .v 95, .v 96, .v 97, .v 98, .v 99, .v 100, .v 101, .v 102, .v 103, .v 104, .v 105, .v 106, .v 107, .v 108, .v 109, .v 110, .v 111, .v 112, .v 113, .v 114, .v 115, .v 116, .v 117, .v 118, .v 119, .v 120, .v 121, .v 122, .v 123, .v 124, .v 125, .v 126, .v 127, .v 128, .v 129, .v 130] 132 (.v 140), .bin 206 .add .i64 (.v 1) (.l 1)] [.v 0, .v 206, .v 2, .v 3, .v 4, .v 5, .v 6, .v 7, .v 8, .v 9, .v 10, .v 11, .v 12, .v 13, .v 14, .v 15, .v 16, .v 17, .v 18, .v 19, .v 20, .v 21, .v 22, .v 23, .v 24, .v 25, .v 26, .v 27, .v 28, .v 29, .v 30, .v 31, .v 32, .v 33, .v 34, .v 35, .v 36, .v 37, .v 38, .v 39, .v 40, .v 41, .v 42, .v 43, .v 44, .v 45, .v 46, .v 47, .v 48, .v 49, .v 50, .v 51, .v 52, .v 53, .v 54, .v 55, .v 56, .v 57, .v 58, .v 59, .v 60, .v 61, .v 62, .v 63, .v 64, .v 65, .v 141, .v 142, .v 143, .v 144, .v 145, .v 146, .v 147, .v 148, .v 149, .v 150, .v 151, .v 152, .v 153, .v 154, .v 155, .v 156, .v 157, .v 158, .v 159, .v 160, .v 161, .v 162, .v 163, .v 164, .v 165, .v 166, .v 167, .v 168, .v 169, .v 170, .v 171, .v 172, .v 173, .v 174, .v 175, .v 176, .v 177, .v 178, .v 179, .v 180, .v 181, .v 182, .v 183, .v 184, .v 185, .v 186, .v 187, .v 188, .v 189, .v 190, .v 191, .v 192, .v 193, .v 194, .v 195, .v 196, .v 197, .v 198, .v 199, .v 200, .v 201, .v 202, .v 203, .v 204, .v 205] = true := by kernel_rfl
  rw [hb] at hk
  refine ⟨.normal, fun j => ([ρT 0, ρT 1 + 1] ++ (seg ρ0 2 64 ++ addRow i (k + 1) (seg ρ0 2 32) (seg ρ0 34 32) (seg ρ0 66 65))).getD j 0, RoundEnd.of (e := none) hk fun ρ hρ hd => ?_, .inl ⟨rfl, ?_⟩⟩
  · have hρ : ∀ i, i < 131 → ρ i = ρT i := hρ
    have r0 : ρ 0 = (i : Int) := by rw [hρ 0 (by decide), i1, hi]
    have r1 : ρ 1 = (k : Int) := by rw [hρ 1 (by decide), hk0]
    have sm : seg ρ 2 64 = seg ρ0 2 64 := (seg_congr fun i hi => hρ _ (by omega)).trans i6
    obtain ⟨sa, sb⟩ := halves sm
    have sb : seg ρ 34 32 = seg ρ0 34 32 := sb
    have st : seg ρ 66 65 = addRow i k (seg ρ0 2 32) (seg ρ0 34 32) (seg ρ0 66 65) := (seg_congr fun i hi => hρ _ (by omega)).trans i8
    simp only [D_nil, D_add, D_sub, D_mul, D_and, D_or, D_xor, D_shl, D_shr, D_andNot, D_quo, D_rem, D_add_i64, D_sub_i64, D_mul_i64, D_add_u32, D_sub_u32, D_mul_u32, D_add_u8, D_sub_u8, D_mul_u8, D_eql, D_neq, D_lss, D_leq, D_gtr, D_geq, D_not, D_conv, D_eqs, D_call, D_cond, D_need, D_idx, D_sel, D_upd, D_shv, D_beq, List.map_cons, List.map_nil, Ref.den, r0, r1] at hd
    obtain ⟨h131, h132, h133, h134, h135, h136, h137, h138, h139, h140, h141, h206, -⟩ := hd
    rw [IntKind.wrap_i64] at h132 h133 h206
    have e132 : ρ 132 = ((i + k : Nat) : Int) := by omega
    have e133 : ρ 133 = ((i + k : Nat) : Int) := by omega
    have e134 : ρ 134 = (seg ρ0 66 65).getD (i + k) 0 := by
      have h : ρ 134 = (seg ρ 66 65).getD (ρ 133).toNat 0 := h134
      rw [h, e133, Int.toNat_natCast, st, ht]
    have e135 : ρ 135 = (seg ρ0 2 32).getD i 0 := by
      have h : ρ 135 = (seg ρ 2 32).getD i 0 := h135
      rw [h, sa]
    have e137 : ρ 137 = (seg ρ0 34 32).getD k 0 := by
      have h : ρ 137 = (seg ρ 34 32).getD k 0 := h137
      rw [h, sb]
    have e136 : ρ 136 = (seg ρ0 2 32).getD i 0 := by rw [h136, IntKind.wrap_i64, e135]; omega
    have e138 : ρ 138 = (seg ρ0 34 32).getD k 0 := by rw [h138, IntKind.wrap_i64, e137]; omega
    rw [e136, e138, IntKind.wrap_i64] at h139
    rw [e134, IntKind.wrap_i64] at h140
    have e140 : ρ 140 = (seg ρ0 66 65).getD (i + k) 0 + (seg ρ0 2 32).getD i 0 * (seg ρ0 34 32).getD k 0 := by
      generalize (seg ρ0 2 32).getD i 0 * (seg ρ0 34 32).getD k 0 = p at *
      omega
    have s141 : seg ρ 141 65 = addRow i (k + 1) (seg ρ0 2 32) (seg ρ0 34 32) (seg ρ0 66 65) := by
      have := set_of (ρ := ρ) (n := 141) (i := i + k) (l := seg ρ 66 65) (x := ρ 140) (fun j hj => by
        have h := h141 j (by rw [seg_len] at hj; exact hj)
        rw [e132, Int.toNat_natCast] at h; exact h)
      rw [seg_len, st, e140, ← ht] at this
      rw [this, addRow_succ (by omega)]
    have k131 := bit_true h131 (decide_eq_true (show (k : Int) < 32 by omega))
    refine ⟨?_, fun j hj => ?_⟩
    · simp only [G_nil, G_bin, G_cmp, G_not, G_conv, G_eqs, G_call, G_cond, G_need, G_idx, G_sel, G_upd, G_shv, G_beq, List.map_cons, List.map_nil, Ref.den, r0, r1]
      refine ⟨k131, ⟨?_, ?_⟩, ⟨?_, ?_⟩, ⟨?_, ?_⟩, ⟨?_, ?_⟩, trivial⟩ <;> omega
    · show ([ρ 0, ρ 206] ++ (seg ρ 2 64 ++ seg ρ 141 65)).getD j 0 = _
      rw [s141, sm, hρ 0 (by decide), show ρ 206 = ρT 1 + 1 by omega]
  · obtain ⟨x', hx⟩ : ∃ x', x' = fun j => ([ρT 0, ρT 1 + 1] ++ (seg ρ0 2 64 ++ addRow i (k + 1) (seg ρ0 2 32) (seg ρ0 34 32) (seg ρ0 66 65))).getD j 0 := ⟨_, rfl⟩
    rw [← hx]
    obtain ⟨x0, x1, xa, xb⟩ := after2 (a := ρT 0) (b := ρT 1 + 1) (seg_len ρ0 2 64) (addRow_len i (k + 1) (seg ρ0 2 32) (seg ρ0 34 32) (seg ρ0 66 65)) hx
    refine ⟨⟨x0.trans i1, i2, i3, ?_, ?_, xa, i7, ?_⟩, ?_⟩
    · rw [x1]; omega
    · rw [x1]; omega
    · rw [xb, x1, hi', show (ρT 1 + 1).toNat = k + 1 by omega]
    · rw [x1]; omega
theorem row_end {cl : Code} (hb : loopAt 0 prIn = some cl) {ρ0 ρT : Nat → Int} (hI : rowI ρ0 ρT) (hlt : ¬ ρT 1 < 32) :
    ∃ e x', RoundEnd Try.prog sfns (callN Try.prog [] 300 5) 300 cl prA.slT prA.memT prA.m ρT e x' ∧ ((e = .normal ∧ rowI ρ0 x' ∧ (32 - x' 1).toNat < (32 - ρT 1).toNat) ∨ (e = .exit prA.xid ∧ ∀ i, i < prA.m → x' i = (sfns.g prA.j [xs prA.m ρ0]).getD i 0)) := by
  obtain ⟨i1, i2, i3, i4, i5, i6, i7, i8⟩ := hI
  have hk : roundB Try.prog [] 300 5 (loopAt 0 prIn) prA [false] (some 2) [.cmp 131 .lss (.v 1) (.l 32), .cond 131 false] [.v 0, .v 1, .v 2, .v 3, .v 4, .v 5, .v 6, .v 7, .v 8, .v 9, .v 10, .v 11, .v 12, .v 13, .v 14, .v 15, .v 16, .v 17, .v 18, .v 19, .v 20, .v 21, .v 22, .v 23, .v 24, .v 25, .v 26, .v 27, .v 28, .v 29, .v 30, .v 31, .v 32, .v 33, .v 34, .v 35, .v 36, .v 37, .v 38, .v 39, .v 40, .v 41, .v 42, .v 43, .v 44, .v 45, .v 46, .v 47, .v 48, .v 49, .v 50, .v 51, .v 52, .v 53, .v 54, .v 55, .v 56, .v 57, .v 58, .v 59, .v 60, .v 61, .v 62, .v 63, .v 64, .v 65, .v 66, .v 67, .v 68, .v 69, .v 70, .v 71, .v 72, .v 73, .v 74, .v 75, .v 76, .v 77, .v 78, .v 79, .v 80, .v 81, .v 82, .v 83, .v 84, .v 85, .v 86, .v 87, .v 88, .v 89, .v 90, .v 91, .v 92, .v 93, .v 94, .v 95, .v 96, .v 97, .v 98, .v 99, .v 100, .v 101, .v 102, .v 103, .v 104, .v 105, .v 106, .v 107, .v 108, .v 109, .v 110, .v 111, .v 112, .v 113, .v 114, .v 115, .v 116, .v 117, .v 118, .v 119, .v 120, .v 121, .v 122, .v 123, .v 124, .v 125, .v 126, .v 127, .v 128, .v 129, .v 130] = true := by kernel_rfl
  rw [hb] at hk
  refine ⟨.exit 2, ρT, RoundEnd.of (e := some 2) hk fun ρ hρ hd => ?_, .inr ⟨rfl, fun i hi => ?_⟩⟩
  · have r1 : ρ 1 = ρT 1 := hρ 1 (by decide)
    simp only [D_nil, D_add, D_sub, D_mul, D_and, D_or, D_xor, D_shl, D_shr, D_andNot, D_quo, D_rem, D_add_i64, D_sub_i64, D_mul_i64, D_add_u32, D_sub_u32, D_mul_u32, D_add_u8, D_sub_u8, D_mul_u8, D_eql, D_neq, D_lss, D_leq, D_gtr, D_geq, D_not, D_conv, D_eqs, D_call, D_cond, D_need, D_idx, D_sel, D_upd, D_shv, D_beq, List.map_cons, List.map_nil, Ref.den, r1] at hd
    obtain ⟨h131, -⟩ := hd
    have k131 := bit_false h131 (decide_eq_false hlt)
    refine ⟨by simp only [G_nil, G_bin, G_cmp, G_not, G_conv, G_eqs, G_call, G_cond, G_need, G_idx, G_sel, G_upd, G_shv, G_beq, List.map_cons, List.map_nil, Ref.den]; exact ⟨k131, trivial⟩, fun i hi => ?_⟩
    show ([ρ 0, ρ 1] ++ (seg ρ 2 64 ++ seg ρ 66 65)).getD i 0 = _
    rw [← pr_get ρ hi, hρ i hi]
  · have hi : i < 131 := hi
    have e1 : ρT 1 = 32 := by omega
    show ρT i = (rowL (xs 131 ρ0)).getD i 0
    unfold rowL
    rw [xs_get (by omega), xs_drop (by omega), xs_drop (by omega), xs_drop (by omega), xs_drop (by omega), pr_get ρT hi, e1, i1, i6, i8, e1]
    rfl
/-- The carries: the state, so far. -/
def carI (ρ0 ρ : Nat → Int) : Prop :=
  ρ 0 = ρ0 0 ∧ 0 ≤ ρ 1 ∧ ρ 1 ≤ 64 ∧ seg ρ 2 64 = seg ρ0 2 64 ∧ Small 131072 (seg ρ0 66 65) ∧ seg ρ 66 65 = carryN (ρ 1).toNat (seg ρ0 66 65)
theorem car_go {cl : Code} (hb : loopAt 1 prIn = some cl) {ρ0 ρT : Nat → Int} (hI : carI ρ0 ρT) (hlt : ρT 1 < 64) :
    ∃ e x', RoundEnd Try.prog sfns (callN Try.prog [] 300 5) 300 cl prB.slT prB.memT prB.m ρT e x' ∧ ((e = .normal ∧ carI ρ0 x' ∧ (64 - x' 1).toNat < (64 - ρT 1).toNat) ∨ (e = .exit prB.xid ∧ ∀ i, i < prB.m → x' i = (sfns.g prB.j [xs prB.m ρ0]).getD i 0)) := by
  obtain ⟨i1, i4, i5, i6, i7, i8⟩ := hI
  obtain ⟨k, hk0⟩ := Int.eq_ofNat_of_zero_le i4
  have hk' : (ρT 1).toNat = k := by omega
  rw [hk'] at i8
  have lt0 : (seg ρ0 66 65).length = 65 := seg_len _ _ _
  have hg := carryN_get (t := seg ρ0 66 65) (fun p hp => small_get i7 hp) (n := k) (by omega)
  rw [lt0] at hg
  have g1 := hg k (by omega)
  have g1' := g1.2.2.1 rfl
  have g2 := hg (k + 1) (by omega)
  have g2' := g2.2.2.2 (by omega)
  obtain ⟨u, hu⟩ : ∃ u, u = carryN k (seg ρ0 66 65) := ⟨_, rfl⟩
  have lu : u.length = 65 := by rw [hu, carryN_len, lt0]
  rw [← hu] at g1 g1' g2 g2' i8
  have hk : roundB Try.prog [] 300 5 (loopAt 1 prIn) prB [true] none [.cmp 131 .lss (.v 1) (.l 64), .cond 131 true, .bin 132 .add .i64 (.v 1) (.l 1), .bin 133 .add .i64 (.v 1) (.l 1), .idx 133 65, .sel 134 [.v 66, .v 67, .v 68, .v 69, .v 70, .v 71, .v 72, .v 73, .v 74, .v 75, .v 76, .v 77, .v 78, .v 79, .v 80, .v 81, .v 82, .v 83, .v 84, .v 85, .v 86, .v 87, .v 88, .v 89, .v 90, .v 91, .v 92, .v 93, .v 94, .v 95, .v 96, .v 97, .v 98, .v 99, .v 100, .v 101, .v 102, .v 103, .v 104, .v 105, .v 106, .v 107, .v 108, .v 109, .v 110, .v 111, .v 112, .v 113, .v 114, .v 115, .v 116, .v 117, .v 118, .v 119, .v 120, .v 121, .v 122, .v 123, .v 124, .v 125, .v 126, .v 127, .v 128, .v 129, .v 130] 133, .idx 1 65, .sel 135 [.v 66, .v 67, .v 68, .v 69, .v 70, .v 71, .v 72, .v 73, .v 74, .v 75, .v 76, .v 77, .v 78, .v 79, .v 80, .v 81, .v 82, .v 83, .v 84, .v 85, .v 86, .v 87, .v 88, .v 89, .v 90, .v 91, .v 92, .v 93, .v 94, .v 95, .v 96, .v 97, .v 98, .v 99, .v 100, .v 101, .v 102, .v 103, .v 104, .v 105, .v 106, .v 107, .v 108, .v 109, .v 110, .v 111, .v 112, .v 113, .v 114, .v 115, .v 116, .v 117, .v 118, .v 119, .v 120, .v 121, .v 122, .v 123, .v 124, .v 125, .v 126, .v 127, .v 128, .v 129, .v 130] 1, .bin 136 .shr .i64 (.v 135) (.l 8), .bin 137 .add .i64 (.v 134) (.v 136), .idx 132 65, .upd 138 [.v 66, .v 67, .v 68, .v 69, .v 70, .v 71, .v 72, .v 73, .v 74, .v 75, .v 76, .v 77, .v 78, .v 79, .v 80, .v 81, .v 82, .v 83, .v 84, .v 85, .v 86, .v 87, .v 88, .v 89, .v 90, .v 91, .v 92, .v 93, .v 94, .v 95, .v 96, .v 97, .v 98, .v 99, .v 100, .v 101, .v 102, .v 103, .v 104, .v 105, .v 106, .v 107, .v 108, .v 109, .v 110, .v 111, .v 112, .v 113, .v 114, .v 115, .v 116, .v 117, .v 118, .v 119, .v 120, .v 121, .v 122, .v 123, .v 124, .v 125, .v 126, .v 127, .v 128, .v 129, .v 130] 132 (.v 137), .idx 1 65, .sel 203 [.v 138, .v 139, .v 140, .v 141, .v 142, .v 143, .v 144, .v 145, .v 146, .v 147, .v 148, .v 149, .v 150, .v 151, .v 152, .v 153, .v 154, .v 155, .v 156, .v 157, .v 158, .v 159, .v 160, .v 161, .v 162, .v 163, .v 164, .v 165, .v 166, .v 167, .v 168, .v 169, .v 170, .v 171, .v 172, .v 173, .v 174, .v 175, .v 176, .v 177, .v 178, .v 179, .v 180, .v 181, .v 182, .v 183, .v 184, .v 185, .v 186, .v 187, .v 188, .v 189, .v 190, .v 191, .v 192, .v 193, .v 194, .v 195, .v 196, .v 197, .v 198, .v 199, .v 200, .v 201, .v 202] 1, .bin 204 .and .i64 (.v 203) (.l 255), .idx 1 65, .upd 205 [.v 138, .v 139, .v 140, .v 141, .v 142, .v 143, .v 144, .v 145, .v 146, .v 147, .v 148, .v 149, .v 150, .v 151, .v 152, .v 153, .v 154, .v 155, .v 156, .v 157, .v 158, .v 159, .v 160, .v 161, .v 162, .v 163, .v 164, .v 165, .v 166, .v 167, .v 168, .v 169, .v 170, .v 171, .v 172, .v 173, .v 174, .v 175, .v 176, .v 177, .v 178, .v 179, .v 180, .v 181, .v 182, .v 183, .v 184, .v 185, .v 186, .v 187, .v 188, .v 189, .v 190, .v 191, .v 192, .v 193, .v 194, .v 195, .v 196, .v 197, .v 198, .v 199, .v 200, .v 201, .v 202] 1 (.v 204), .bin 270 .add .i64 (.v 1) (.l 1)] [.v 0, .v 270, .v 2, .v 3, .v 4, .v 5, .v 6, .v 7, .v 8, .v 9, .v 10, .v 11, .v 12, .v 13, .v 14, .v 15, .v 16, .v 17, .v 18, .v 19, .v 20, .v 21, .v 22, .v 23, .v 24, .v 25, .v 26, .v 27, .v 28, .v 29, .v 30, .v 31, .v 32, .v 33, .v 34, .v 35, .v 36, .v 37, .v 38, .v 39, .v 40, .v 41, .v 42, .v 43, .v 44, .v 45, .v 46, .v 47, .v 48, .v 49, .v 50, .v 51, .v 52, .v 53, .v 54, .v 55, .v 56, .v 57, .v 58, .v 59, .v 60, .v 61, .v 62, .v 63, .v 64, .v 65, .v 205, .v 206, .v 207, .v 208, .v 209, .v 210, .v 211, .v 212, .v 213, .v 214, .v 215, .v 216, .v 217, .v 218, .v 219, .v 220, .v 221, .v 222, .v 223, .v 224, .v 225, .v 226, .v 227, .v 228, .v 229, .v 230, .v 231, .v 232, .v 233, .v 234, .v 235, .v 236, .v 237, .v 238, .v 239, .v 240, .v 241, .v 242, .v 243, .v 244, .v 245, .v 246, .v 247, .v 248, .v 249, .v 250, .v 251, .v 252, .v 253, .v 254, .v 255, .v 256, .v 257, .v 258, .v 259, .v 260, .v 261, .v 262, .v 263, .v 264, .v 265, .v 266, .v 267, .v 268, .v 269] = true := by kernel_rfl
  rw [hb] at hk
  refine ⟨.normal, fun j => ([ρT 0, ρT 1 + 1] ++ (seg ρ0 2 64 ++ carry1 k u)).getD j 0, RoundEnd.of (e := none) hk fun ρ hρ hd => ?_, .inl ⟨rfl, ?_⟩⟩
  · have hρ : ∀ i, i < 131 → ρ i = ρT i := hρ
    have r1 : ρ 1 = (k : Int) := by rw [hρ 1 (by decide), hk0]
    have sm : seg ρ 2 64 = seg ρ0 2 64 := (seg_congr fun i hi => hρ _ (by omega)).trans i6
    have st : seg ρ 66 65 = u := (seg_congr fun i hi => hρ _ (by omega)).trans i8
    simp only [D_nil, D_add, D_sub, D_mul, D_and, D_or, D_xor, D_shl, D_shr, D_andNot, D_quo, D_rem, D_add_i64, D_sub_i64, D_mul_i64, D_add_u32, D_sub_u32, D_mul_u32, D_add_u8, D_sub_u8, D_mul_u8, D_eql, D_neq, D_lss, D_leq, D_gtr, D_geq, D_not, D_conv, D_eqs, D_call, D_cond, D_need, D_idx, D_sel, D_upd, D_shv, D_beq, List.map_cons, List.map_nil, Ref.den, r1] at hd
    obtain ⟨h131, h132, h133, h134, h135, h136, h137, h138, h203, h204, h205, h270, -⟩ := hd
    rw [IntKind.wrap_i64] at h132 h133 h137 h270
    have e132 : ρ 132 = ((k + 1 : Nat) : Int) := by omega
    have e133 : ρ 133 = ((k + 1 : Nat) : Int) := by omega
    have e134 : ρ 134 = u.getD (k + 1) 0 := by
      have h : ρ 134 = (seg ρ 66 65).getD (ρ 133).toNat 0 := h134
      rw [h, e133, Int.toNat_natCast, st]
    have e135 : ρ 135 = u.getD k 0 := by
      have h : ρ 135 = (seg ρ 66 65).getD k 0 := h135
      rw [h, st]
    have e136 : ρ 136 = u.getD k 0 / 256 := by
      have := u_shr 8 (by decide) h136 rfl
      rw [this, e135]; rfl
    have e137 : ρ 137 = u.getD (k + 1) 0 + u.getD k 0 / 256 := by omega
    have s138 : seg ρ 138 65 = u.set (k + 1) (u.getD (k + 1) 0 + u.getD k 0 / 256) := by
      have := set_of (ρ := ρ) (n := 138) (i := k + 1) (l := seg ρ 66 65) (x := ρ 137) (fun j hj => by
        have h := h138 j (by rw [seg_len] at hj; exact hj)
        rw [e132, Int.toNat_natCast] at h; exact h)
      rw [seg_len, st, e137] at this; exact this
    have e203 : ρ 203 = (u.set (k + 1) (u.getD (k + 1) 0 + u.getD k 0 / 256)).getD k 0 := by
      have h : ρ 203 = (seg ρ 138 65).getD k 0 := h203
      rw [h, s138]
    have e204 : ρ 204 = (u.set (k + 1) (u.getD (k + 1) 0 + u.getD k 0 / 256)).getD k 0 % 256 := by
      have := k_and 8 (by decide) rfl h204
      rw [this, e203]; rfl
    have s205 : seg ρ 205 65 = carry1 k u := by
      have := set_of (ρ := ρ) (n := 205) (i := k) (l := seg ρ 138 65) (x := ρ 204) (fun j hj => h205 j (by rw [seg_len] at hj; exact hj))
      rw [seg_len, s138, e204] at this; exact this
    have k131 := bit_true h131 (decide_eq_true (show (k : Int) < 64 by omega))
    refine ⟨?_, fun j hj => ?_⟩
    · simp only [G_nil, G_bin, G_cmp, G_not, G_conv, G_eqs, G_call, G_cond, G_need, G_idx, G_sel, G_upd, G_shv, G_beq, List.map_cons, List.map_nil, Ref.den, r1]
      refine ⟨k131, ⟨?_, ?_⟩, ⟨?_, ?_⟩, ⟨?_, ?_⟩, ⟨?_, ?_⟩, ⟨?_, ?_⟩, trivial⟩ <;> omega
    · show ([ρ 0, ρ 270] ++ (seg ρ 2 64 ++ seg ρ 205 65)).getD j 0 = _
      rw [s205, sm, hρ 0 (by decide), show ρ 270 = ρT 1 + 1 by omega]
  · obtain ⟨x', hx⟩ : ∃ x', x' = fun j => ([ρT 0, ρT 1 + 1] ++ (seg ρ0 2 64 ++ carry1 k u)).getD j 0 := ⟨_, rfl⟩
    rw [← hx]
    obtain ⟨x0, x1, xa, xb⟩ := after2 (a := ρT 0) (b := ρT 1 + 1) (seg_len ρ0 2 64) (show (carry1 k u).length = 65 by rw [carry1_len, lu]) hx
    refine ⟨⟨x0.trans i1, ?_, ?_, xa, i7, ?_⟩, ?_⟩
    · rw [x1]; omega
    · rw [x1]; omega
    · rw [xb, x1, show (ρT 1 + 1).toNat = k + 1 by omega, hu]; rfl
    · rw [x1]; omega
theorem car_end {cl : Code} (hb : loopAt 1 prIn = some cl) {ρ0 ρT : Nat → Int} (hI : carI ρ0 ρT) (hlt : ¬ ρT 1 < 64) :
    ∃ e x', RoundEnd Try.prog sfns (callN Try.prog [] 300 5) 300 cl prB.slT prB.memT prB.m ρT e x' ∧ ((e = .normal ∧ carI ρ0 x' ∧ (64 - x' 1).toNat < (64 - ρT 1).toNat) ∨ (e = .exit prB.xid ∧ ∀ i, i < prB.m → x' i = (sfns.g prB.j [xs prB.m ρ0]).getD i 0)) := by
  obtain ⟨i1, i4, i5, i6, i7, i8⟩ := hI
  have hk : roundB Try.prog [] 300 5 (loopAt 1 prIn) prB [false] (some 4) [.cmp 131 .lss (.v 1) (.l 64), .cond 131 false] [.v 0, .v 1, .v 2, .v 3, .v 4, .v 5, .v 6, .v 7, .v 8, .v 9, .v 10, .v 11, .v 12, .v 13, .v 14, .v 15, .v 16, .v 17, .v 18, .v 19, .v 20, .v 21, .v 22, .v 23, .v 24, .v 25, .v 26, .v 27, .v 28, .v 29, .v 30, .v 31, .v 32, .v 33, .v 34, .v 35, .v 36, .v 37, .v 38, .v 39, .v 40, .v 41, .v 42, .v 43, .v 44, .v 45, .v 46, .v 47, .v 48, .v 49, .v 50, .v 51, .v 52, .v 53, .v 54, .v 55, .v 56, .v 57, .v 58, .v 59, .v 60, .v 61, .v 62, .v 63, .v 64, .v 65, .v 66, .v 67, .v 68, .v 69, .v 70, .v 71, .v 72, .v 73, .v 74, .v 75, .v 76, .v 77, .v 78, .v 79, .v 80, .v 81, .v 82, .v 83, .v 84, .v 85, .v 86, .v 87, .v 88, .v 89, .v 90, .v 91, .v 92, .v 93, .v 94, .v 95, .v 96, .v 97, .v 98, .v 99, .v 100, .v 101, .v 102, .v 103, .v 104, .v 105, .v 106, .v 107, .v 108, .v 109, .v 110, .v 111, .v 112, .v 113, .v 114, .v 115, .v 116, .v 117, .v 118, .v 119, .v 120, .v 121, .v 122, .v 123, .v 124, .v 125, .v 126, .v 127, .v 128, .v 129, .v 130] = true := by kernel_rfl
  rw [hb] at hk
  refine ⟨.exit 4, ρT, RoundEnd.of (e := some 4) hk fun ρ hρ hd => ?_, .inr ⟨rfl, fun i hi => ?_⟩⟩
  · have r1 : ρ 1 = ρT 1 := hρ 1 (by decide)
    simp only [D_nil, D_add, D_sub, D_mul, D_and, D_or, D_xor, D_shl, D_shr, D_andNot, D_quo, D_rem, D_add_i64, D_sub_i64, D_mul_i64, D_add_u32, D_sub_u32, D_mul_u32, D_add_u8, D_sub_u8, D_mul_u8, D_eql, D_neq, D_lss, D_leq, D_gtr, D_geq, D_not, D_conv, D_eqs, D_call, D_cond, D_need, D_idx, D_sel, D_upd, D_shv, D_beq, List.map_cons, List.map_nil, Ref.den, r1] at hd
    obtain ⟨h131, -⟩ := hd
    have k131 := bit_false h131 (decide_eq_false hlt)
    refine ⟨by simp only [G_nil, G_bin, G_cmp, G_not, G_conv, G_eqs, G_call, G_cond, G_need, G_idx, G_sel, G_upd, G_shv, G_beq, List.map_cons, List.map_nil, Ref.den]; exact ⟨k131, trivial⟩, fun i hi => ?_⟩
    show ([ρ 0, ρ 1] ++ (seg ρ 2 64 ++ seg ρ 66 65)).getD i 0 = _
    rw [← pr_get ρ hi, hρ i hi]
  · have hi : i < 131 := hi
    have e1 : ρT 1 = 64 := by omega
    show ρT i = (carryL (xs 131 ρ0)).getD i 0
    unfold carryL
    rw [xs_get (by omega), xs_drop (by omega), xs_drop (by omega), pr_get ρT hi, e1, i1, i6, i8, e1]
    rfl
theorem ok0 : CallOK Try.prog sfns (callN Try.prog [] 300 5) := callN_ok no_ctr mixed 300 5
theorem rowOK {cl : Code} (hcl : loopAt 0 prIn = some cl) : LoopOKW Try.prog sfns prA cl := by
  refine LoopOK.toW ok0 mixed (lf := 300) ⟨rowI, fun ρ => (32 - ρ 1).toNat, fun ρ0 hT hp => ?_, fun ρ0 ρT hT hI => ?_⟩
  · have hp : rowP (xs 131 ρ0) := hp
    unfold rowP at hp
    rw [xs_get (by omega), xs_get (by omega), xs_drop (by omega)] at hp
    obtain ⟨p1, p2, p3, p4⟩ := hp
    exact ⟨rfl, p1, p2, by omega, by omega, rfl, p4, by rw [p3]; exact (addRow_zero (seg_len _ _ _)).symm⟩
  · by_cases h : ρT 1 < 32
    · exact row_go hcl hT hI h
    · exact row_end hcl hI h
theorem carOK {cl : Code} (hcl : loopAt 1 prIn = some cl) : LoopOKW Try.prog sfns prB cl := by
  refine LoopOK.toW ok0 mixed (lf := 300) ⟨carI, fun ρ => (64 - ρ 1).toNat, fun ρ0 hT hp => ?_, fun ρ0 ρT hT hI => ?_⟩
  · have hp : carryP (xs 131 ρ0) := hp
    unfold carryP at hp
    rw [xs_get (by omega), xs_drop (by omega)] at hp
    obtain ⟨p1, p2⟩ := hp
    exact ⟨rfl, by omega, by omega, rfl, p2, by rw [p1]; rfl⟩
  · by_cases h : ρT 1 < 64
    · exact car_go hcl hI h
    · exact car_end hcl hI h
theorem insOK : ∀ i t cl, [prA, prB][i]? = some t → loopAt i prIn = some cl → LoopOKW Try.prog sfns t cl := fun i t cl h1 h2 => by
  match i, h1 with
  | 0, h1 => cases h1; exact rowOK h2
  | 1, h1 => cases h1; exact carOK h2
  | n + 2, h1 => simp at h1
/-- All rows: the state, so far. -/
def prI (ρ0 ρ : Nat → Int) : Prop :=
  0 ≤ ρ 0 ∧ ρ 0 ≤ 32 ∧ seg ρ 1 64 = seg ρ0 1 64 ∧ seg ρ0 65 65 = List.replicate 65 0 ∧ seg ρ 65 65 = prodN (seg ρ0 1 32) (seg ρ0 33 32) (List.replicate 65 0) (ρ 0).toNat
theorem pr_dig' {ρ : Nat → Int} (hT : TOk prT.slT prT.memT ρ) : Dig 256 (seg ρ 1 32) ∧ Dig 256 (seg ρ 33 32) := by
  have h1 : ∀ c ∈ (List.range 32).map (fun i => C.int .u8 (.v (1 + i))), C.inr ρ c := hT.m _ (List.mem_cons_self ..)
  have h2 : ∀ c ∈ (List.range 32).map (fun i => C.int .u8 (.v (33 + i))), C.inr ρ c := hT.m _ (List.mem_cons_of_mem _ (List.mem_cons_self ..))
  exact ⟨dig8s (seg_inr h1), dig8s (seg_inr h2)⟩
theorem pr_go {ρ0 ρT : Nat → Int} (hT : TOk prT.slT prT.memT ρT) (hI : prI ρ0 ρT) (hlt : ρT 0 < 32) :
    ∃ e x', RoundEndW Try.prog sfns prIn prT.slT prT.memT prT.m ρT e x' ∧ ((e = .normal ∧ prI ρ0 x' ∧ (32 - x' 0).toNat < (32 - ρT 0).toNat) ∨ (e = .exit prT.xid ∧ ∀ i, i < prT.m → x' i = (sfns.g prT.j [xs prT.m ρ0]).getD i 0)) := by
  obtain ⟨dA, dB⟩ := pr_dig' hT
  obtain ⟨i1, i2, i3, i4, i5⟩ := hI
  obtain ⟨n, hn⟩ := Int.eq_ofNat_of_zero_le i1
  have hn' : (ρT 0).toNat = n := by omega
  obtain ⟨hA, hB⟩ := halves i3
  have hB : seg ρT 33 32 = seg ρ0 33 32 := hB
  rw [hA] at dA; rw [hB] at dB
  rw [hn'] at i5
  have hok := prodN_ok dA dB (seg_len _ _ _) (seg_len _ _ _) n (by omega)
  obtain ⟨u, hu⟩ : ∃ u, u = prodN (seg ρ0 1 32) (seg ρ0 33 32) (List.replicate 65 0) n := ⟨_, rfl⟩
  rw [← hu] at hok i5
  obtain ⟨o1, o2, o3, o4⟩ := hok
  have osm : Small 65536 u := fun z hz => ⟨(o2 z hz).1, by have := (o2 z hz).2; omega⟩
  have hk : roundTB Try.prog [] 300 5 [prA, prB] (some prIn) prT [true] none [.cmp 130 .lss (.v 0) (.l 32), .cond 130 true, .need 35 [[.v 0, .l 0, .v 1, .v 2, .v 3, .v 4, .v 5, .v 6, .v 7, .v 8, .v 9, .v 10, .v 11, .v 12, .v 13, .v 14, .v 15, .v 16, .v 17, .v 18, .v 19, .v 20, .v 21, .v 22, .v 23, .v 24, .v 25, .v 26, .v 27, .v 28, .v 29, .v 30, .v 31, .v 32, .v 33, .v 34, .v 35, .v 36, .v 37, .v 38, .v 39, .v 40, .v 41, .v 42, .v 43, .v 44, .v 45, .v 46, .v 47, .v 48, .v 49, .v 50, .v 51, .v 52, .v 53, .v 54, .v 55, .v 56, .v 57, .v 58, .v 59, .v 60, .v 61, .v 62, .v 63, .v 64, .v 65, .v 66, .v 67, .v 68, .v 69, .v 70, .v 71, .v 72, .v 73, .v 74, .v 75, .v 76, .v 77, .v 78, .v 79, .v 80, .v 81, .v 82, .v 83, .v 84, .v 85, .v 86, .v 87, .v 88, .v 89, .v 90, .v 91, .v 92, .v 93, .v 94, .v 95, .v 96, .v 97, .v 98, .v 99, .v 100, .v 101, .v 102, .v 103, .v 104, .v 105, .v 106, .v 107, .v 108, .v 109, .v 110, .v 111, .v 112, .v 113, .v 114, .v 115, .v 116, .v 117, .v 118, .v 119, .v 120, .v 121, .v 122, .v 123, .v 124, .v 125, .v 126, .v 127, .v 128, .v 129]], .call 131 35 [[.v 0, .l 0, .v 1, .v 2, .v 3, .v 4, .v 5, .v 6, .v 7, .v 8, .v 9, .v 10, .v 11, .v 12, .v 13, .v 14, .v 15, .v 16, .v 17, .v 18, .v 19, .v 20, .v 21, .v 22, .v 23, .v 24, .v 25, .v 26, .v 27, .v 28, .v 29, .v 30, .v 31, .v 32, .v 33, .v 34, .v 35, .v 36, .v 37, .v 38, .v 39, .v 40, .v 41, .v 42, .v 43, .v 44, .v 45, .v 46, .v 47, .v 48, .v 49, .v 50, .v 51, .v 52, .v 53, .v 54, .v 55, .v 56, .v 57, .v 58, .v 59, .v 60, .v 61, .v 62, .v 63, .v 64, .v 65, .v 66, .v 67, .v 68, .v 69, .v 70, .v 71, .v 72, .v 73, .v 74, .v 75, .v 76, .v 77, .v 78, .v 79, .v 80, .v 81, .v 82, .v 83, .v 84, .v 85, .v 86, .v 87, .v 88, .v 89, .v 90, .v 91, .v 92, .v 93, .v 94, .v 95, .v 96, .v 97, .v 98, .v 99, .v 100, .v 101, .v 102, .v 103, .v 104, .v 105, .v 106, .v 107, .v 108, .v 109, .v 110, .v 111, .v 112, .v 113, .v 114, .v 115, .v 116, .v 117, .v 118, .v 119, .v 120, .v 121, .v 122, .v 123, .v 124, .v 125, .v 126, .v 127, .v 128, .v 129]] 131, .need 36 [[.v 131, .l 0, .v 133, .v 134, .v 135, .v 136, .v 137, .v 138, .v 139, .v 140, .v 141, .v 142, .v 143, .v 144, .v 145, .v 146, .v 147, .v 148, .v 149, .v 150, .v 151, .v 152, .v 153, .v 154, .v 155, .v 156, .v 157, .v 158, .v 159, .v 160, .v 161, .v 162, .v 163, .v 164, .v 165, .v 166, .v 167, .v 168, .v 169, .v 170, .v 171, .v 172, .v 173, .v 174, .v 175, .v 176, .v 177, .v 178, .v 179, .v 180, .v 181, .v 182, .v 183, .v 184, .v 185, .v 186, .v 187, .v 188, .v 189, .v 190, .v 191, .v 192, .v 193, .v 194, .v 195, .v 196, .v 197, .v 198, .v 199, .v 200, .v 201, .v 202, .v 203, .v 204, .v 205, .v 206, .v 207, .v 208, .v 209, .v 210, .v 211, .v 212, .v 213, .v 214, .v 215, .v 216, .v 217, .v 218, .v 219, .v 220, .v 221, .v 222, .v 223, .v 224, .v 225, .v 226, .v 227, .v 228, .v 229, .v 230, .v 231, .v 232, .v 233, .v 234, .v 235, .v 236, .v 237, .v 238, .v 239, .v 240, .v 241, .v 242, .v 243, .v 244, .v 245, .v 246, .v 247, .v 248, .v 249, .v 250, .v 251, .v 252, .v 253, .v 254, .v 255, .v 256, .v 257, .v 258, .v 259, .v 260, .v 261]], .call 262 36 [[.v 131, .l 0, .v 133, .v 134, .v 135, .v 136, .v 137, .v 138, .v 139, .v 140, .v 141, .v 142, .v 143, .v 144, .v 145, .v 146, .v 147, .v 148, .v 149, .v 150, .v 151, .v 152, .v 153, .v 154, .v 155, .v 156, .v 157, .v 158, .v 159, .v 160, .v 161, .v 162, .v 163, .v 164, .v 165, .v 166, .v 167, .v 168, .v 169, .v 170, .v 171, .v 172, .v 173, .v 174, .v 175, .v 176, .v 177, .v 178, .v 179, .v 180, .v 181, .v 182, .v 183, .v 184, .v 185, .v 186, .v 187, .v 188, .v 189, .v 190, .v 191, .v 192, .v 193, .v 194, .v 195, .v 196, .v 197, .v 198, .v 199, .v 200, .v 201, .v 202, .v 203, .v 204, .v 205, .v 206, .v 207, .v 208, .v 209, .v 210, .v 211, .v 212, .v 213, .v 214, .v 215, .v 216, .v 217, .v 218, .v 219, .v 220, .v 221, .v 222, .v 223, .v 224, .v 225, .v 226, .v 227, .v 228, .v 229, .v 230, .v 231, .v 232, .v 233, .v 234, .v 235, .v 236, .v 237, .v 238, .v 239, .v 240, .v 241, .v 242, .v 243, .v 244, .v 245, .v 246, .v 247, .v 248, .v 249, .v 250, .v 251, .v 252, .v 253, .v 254, .v 255, .v 256, .v 257, .v 258, .v 259, .v 260, .v 261]] 131, .bin 393 .add .i64 (.v 262) (.l 1)] [.v 393, .v 264, .v 265, .v 266, .v 267, .v 268, .v 269, .v 270, .v 271, .v 272, .v 273, .v 274, .v 275, .v 276, .v 277, .v 278, .v 279, .v 280, .v 281, .v 282, .v 283, .v 284, .v 285, .v 286, .v 287, .v 288, .v 289, .v 290, .v 291, .v 292, .v 293, .v 294, .v 295, .v 296, .v 297, .v 298, .v 299, .v 300, .v 301, .v 302, .v 303, .v 304, .v 305, .v 306, .v 307, .v 308, .v 309, .v 310, .v 311, .v 312, .v 313, .v 314, .v 315, .v 316, .v 317, .v 318, .v 319, .v 320, .v 321, .v 322, .v 323, .v 324, .v 325, .v 326, .v 327, .v 328, .v 329, .v 330, .v 331, .v 332, .v 333, .v 334, .v 335, .v 336, .v 337, .v 338, .v 339, .v 340, .v 341, .v 342, .v 343, .v 344, .v 345, .v 346, .v 347, .v 348, .v 349, .v 350, .v 351, .v 352, .v 353, .v 354, .v 355, .v 356, .v 357, .v 358, .v 359, .v 360, .v 361, .v 362, .v 363, .v 364, .v 365, .v 366, .v 367, .v 368, .v 369, .v 370, .v 371, .v 372, .v 373, .v 374, .v 375, .v 376, .v 377, .v 378, .v 379, .v 380, .v 381, .v 382, .v 383, .v 384, .v 385, .v 386, .v 387, .v 388, .v 389, .v 390, .v 391, .v 392] = true := by kernel_rfl
  refine ⟨.normal, fun j => ([ρT 0 + 1] ++ (seg ρ0 1 64 ++ carryN 64 (addRow n 32 (seg ρ0 1 32) (seg ρ0 33 32) u))).getD j 0, RoundEndW.of no_ctr mixed insOK (e := none) hk fun ρ hρ hd => ?_, .inl ⟨rfl, ?_⟩⟩
  · have hρ : ∀ i, i < 130 → ρ i = ρT i := hρ
    have r0 : ρ 0 = (n : Int) := by rw [hρ 0 (by decide), hn]
    have sm : seg ρ 1 64 = seg ρ0 1 64 := (seg_congr fun i hi => hρ _ (by omega)).trans i3
    obtain ⟨sa, sb⟩ := halves sm
    have sb : seg ρ 33 32 = seg ρ0 33 32 := sb
    have st : seg ρ 65 65 = u := (seg_congr fun i hi => hρ _ (by omega)).trans i5
    simp only [D_nil, D_add, D_sub, D_mul, D_and, D_or, D_xor, D_shl, D_shr, D_andNot, D_quo, D_rem, D_add_i64, D_sub_i64, D_mul_i64, D_add_u32, D_sub_u32, D_mul_u32, D_add_u8, D_sub_u8, D_mul_u8, D_eql, D_neq, D_lss, D_leq, D_gtr, D_geq, D_not, D_conv, D_eqs, D_call, D_cond, D_need, D_idx, D_sel, D_upd, D_shv, D_beq, List.map_cons, List.map_nil, Ref.den] at hd
    obtain ⟨h130, h131, h262, h393, -⟩ := hd
    have lA : (seg ρ 1 64).length = 64 := seg_len _ _ _
    have lB : (seg ρ 65 65).length = 65 := seg_len _ _ _
    have s131 : ∀ i, i < 131 → ρ (131 + i) = ([ρ 0, 32] ++ (seg ρ 1 64 ++ addRow (ρ 0).toNat 32 (seg ρ 1 32) (seg ρ 33 32) (seg ρ 65 65))).getD i 0 := fun i hi => h131 i hi
    rw [sm, sa, sb, st, r0, Int.toNat_natCast] at s131
    obtain ⟨v0, v1, va, vb⟩ := after2 (a := (n : Int)) (b := 32) (seg_len ρ0 1 64) (addRow_len n 32 (seg ρ0 1 32) (seg ρ0 33 32) u) rfl
    have q0 : ρ 131 = n := s131 0 (by decide)
    have qa : seg ρ 133 64 = seg ρ0 1 64 := by
      rw [← va]; exact seg_congr fun i hi => by rw [show 133 + i = 131 + (2 + i) by omega]; exact s131 _ (by omega)
    have qb : seg ρ 197 65 = addRow n 32 (seg ρ0 1 32) (seg ρ0 33 32) u := by
      rw [← vb]; exact seg_congr fun i hi => by rw [show 197 + i = 131 + (66 + i) by omega]; exact s131 _ (by omega)
    have s262 : ∀ i, i < 131 → ρ (262 + i) = ([ρ 131, 64] ++ (seg ρ 133 64 ++ carryN 64 (seg ρ 197 65))).getD i 0 := fun i hi => h262 i hi
    rw [qa, qb, q0] at s262
    have lC : (carryN 64 (addRow n 32 (seg ρ0 1 32) (seg ρ0 33 32) u)).length = 65 := by rw [carryN_len, addRow_len]
    obtain ⟨y0, y1, ya, yb⟩ := after2 (a := (n : Int)) (b := 64) (seg_len ρ0 1 64) lC rfl
    have z0 : ρ 262 = n := s262 0 (by decide)
    have za : seg ρ 264 64 = seg ρ0 1 64 := by
      rw [← ya]; exact seg_congr fun i hi => by rw [show 264 + i = 262 + (2 + i) by omega]; exact s262 _ (by omega)
    have zb : seg ρ 328 65 = carryN 64 (addRow n 32 (seg ρ0 1 32) (seg ρ0 33 32) u) := by
      rw [← yb]; exact seg_congr fun i hi => by rw [show 328 + i = 262 + (66 + i) by omega]; exact s262 _ (by omega)
    rw [z0, IntKind.wrap_i64] at h393
    have k130 := bit_true h130 (decide_eq_true (show ρ 0 < 32 by omega))
    refine ⟨?_, fun j hj => ?_⟩
    · simp only [G_nil, G_bin, G_cmp, G_not, G_conv, G_eqs, G_call, G_cond, G_need, G_idx, G_sel, G_upd, G_shv, G_beq, List.map_cons, List.map_nil, Ref.den]
      refine ⟨k130, ?_, ?_, trivial⟩
      · show rowP ([ρ 0, 0] ++ (seg ρ 1 64 ++ seg ρ 65 65))
        refine ⟨?_, ?_, rfl, ?_⟩
        · show 0 ≤ ρ 0; omega
        · show ρ 0 < 32; omega
        · show Small 65536 ((seg ρ 65 65).take 65)
          rw [List.take_of_length_le (by omega), st]; exact osm
      · show carryP ([ρ 131, 0] ++ (seg ρ 133 64 ++ seg ρ 197 65))
        refine ⟨rfl, ?_⟩
        show Small 131072 ((seg ρ 197 65).take 65)
        rw [List.take_of_length_le (by rw [seg_len]; omega), qb]
        exact addRow_small dA dB (seg_len _ _ _) (seg_len _ _ _) o1 (by omega) osm
    · show ([ρ 393] ++ (seg ρ 264 64 ++ seg ρ 328 65)).getD j 0 = _
      rw [za, zb, show ρ 393 = ρT 0 + 1 by omega]
  · obtain ⟨x', hx⟩ : ∃ x', x' = fun j => ([ρT 0 + 1] ++ (seg ρ0 1 64 ++ carryN 64 (addRow n 32 (seg ρ0 1 32) (seg ρ0 33 32) u))).getD j 0 := ⟨_, rfl⟩
    rw [← hx]
    have lC : (carryN 64 (addRow n 32 (seg ρ0 1 32) (seg ρ0 33 32) u)).length = 65 := by rw [carryN_len, addRow_len]
    have x0 : x' 0 = ρT 0 + 1 := by rw [hx]; rfl
    have xa : seg x' 1 64 = seg ρ0 1 64 := by
      have := seg_mid [ρT 0 + 1] (seg ρ0 1 64) (carryN 64 (addRow n 32 (seg ρ0 1 32) (seg ρ0 33 32) u))
      rw [seg_len] at this; rw [hx]; exact this
    have xb : seg x' 65 65 = carryN 64 (addRow n 32 (seg ρ0 1 32) (seg ρ0 33 32) u) := by
      have := seg_end [ρT 0 + 1] (seg ρ0 1 64) (carryN 64 (addRow n 32 (seg ρ0 1 32) (seg ρ0 33 32) u))
      rw [seg_len, lC] at this; rw [hx]; exact this
    refine ⟨⟨by rw [x0]; omega, by rw [x0]; omega, xa, i4, ?_⟩, by rw [x0]; omega⟩
    rw [xb, x0, show (ρT 0 + 1).toNat = n + 1 by omega, hu]; rfl
theorem pr_end {ρ0 ρT : Nat → Int} (hI : prI ρ0 ρT) (hlt : ¬ ρT 0 < 32) :
    ∃ e x', RoundEndW Try.prog sfns prIn prT.slT prT.memT prT.m ρT e x' ∧ ((e = .normal ∧ prI ρ0 x' ∧ (32 - x' 0).toNat < (32 - ρT 0).toNat) ∨ (e = .exit prT.xid ∧ ∀ i, i < prT.m → x' i = (sfns.g prT.j [xs prT.m ρ0]).getD i 0)) := by
  obtain ⟨i1, i2, i3, i4, i5⟩ := hI
  have hk : roundTB Try.prog [] 300 5 [prA, prB] (some prIn) prT [false] (some 0) [.cmp 130 .lss (.v 0) (.l 32), .cond 130 false] [.v 0, .v 1, .v 2, .v 3, .v 4, .v 5, .v 6, .v 7, .v 8, .v 9, .v 10, .v 11, .v 12, .v 13, .v 14, .v 15, .v 16, .v 17, .v 18, .v 19, .v 20, .v 21, .v 22, .v 23, .v 24, .v 25, .v 26, .v 27, .v 28, .v 29, .v 30, .v 31, .v 32, .v 33, .v 34, .v 35, .v 36, .v 37, .v 38, .v 39, .v 40, .v 41, .v 42, .v 43, .v 44, .v 45, .v 46, .v 47, .v 48, .v 49, .v 50, .v 51, .v 52, .v 53, .v 54, .v 55, .v 56, .v 57, .v 58, .v 59, .v 60, .v 61, .v 62, .v 63, .v 64, .v 65, .v 66, .v 67, .v 68, .v 69, .v 70, .v 71, .v 72, .v 73, .v 74, .v 75, .v 76, .v 77, .v 78, .v 79, .v 80, .v 81, .v 82, .v 83, .v 84, .v 85, .v 86, .v 87, .v 88, .v 89, .v 90, .v 91, .v 92, .v 93, .v 94, .v 95, .v 96, .v 97, .v 98, .v 99, .v 100, .v 101, .v 102, .v 103, .v 104, .v 105, .v 106, .v 107, .v 108, .v 109, .v 110, .v 111, .v 112, .v 113, .v 114, .v 115, .v 116, .v 117, .v 118, .v 119, .v 120, .v 121, .v 122, .v 123, .v 124, .v 125, .v 126, .v 127, .v 128, .v 129] = true := by kernel_rfl
  refine ⟨.exit 0, ρT, RoundEndW.of no_ctr mixed insOK (e := some 0) hk fun ρ hρ hd => ?_, .inr ⟨rfl, fun i hi => ?_⟩⟩
  · have r0 : ρ 0 = ρT 0 := hρ 0 (by decide)
    simp only [D_nil, D_add, D_sub, D_mul, D_and, D_or, D_xor, D_shl, D_shr, D_andNot, D_quo, D_rem, D_add_i64, D_sub_i64, D_mul_i64, D_add_u32, D_sub_u32, D_mul_u32, D_add_u8, D_sub_u8, D_mul_u8, D_eql, D_neq, D_lss, D_leq, D_gtr, D_geq, D_not, D_conv, D_eqs, D_call, D_cond, D_need, D_idx, D_sel, D_upd, D_shv, D_beq, List.map_cons, List.map_nil, Ref.den, r0] at hd
    obtain ⟨h130, -⟩ := hd
    have k130 := bit_false h130 (decide_eq_false hlt)
    refine ⟨by simp only [G_nil, G_bin, G_cmp, G_not, G_conv, G_eqs, G_call, G_cond, G_need, G_idx, G_sel, G_upd, G_shv, G_beq, List.map_cons, List.map_nil, Ref.den]; exact ⟨k130, trivial⟩, fun i hi => ?_⟩
    show ([ρ 0] ++ (seg ρ 1 64 ++ seg ρ 65 65)).getD i 0 = _
    rw [← pr_get' ρ hi, hρ i hi]
  · have hi : i < 130 := hi
    have e1 : ρT 0 = 32 := by omega
    show ρT i = (prodL (xs 130 ρ0)).getD i 0
    unfold prodL
    rw [xs_drop (by omega), xs_drop (by omega), xs_drop (by omega), xs_drop (by omega), pr_get' ρT hi, e1, i3, i4, i5, e1]
    rfl
theorem okProd : CtrOK Try.prog sfns cProd := by
  refine CtrOK.ofW (t := prT) (k := 0) (fn := Try.f54) (body := prBody) no_ctr mixed (lf := 300) (d := 5) (by kernel_rfl) (by kernel_rfl) ?_ rfl fun w vs xs ha _ => ?_
  · intro cl hcl
    have hcl' : prIn = cl := by unfold prIn; rw [hcl]; rfl
    subst hcl'
    refine ⟨prI, fun ρ => (32 - ρ 0).toNat, fun ρ0 hT hp => ?_, fun ρ0 ρT hT hI => ?_⟩
    · have hp : prodP (Go.Sx.xs 130 ρ0) := hp
      unfold prodP at hp
      rw [xs_get (by omega), xs_drop (by omega)] at hp
      exact ⟨by omega, by omega, rfl, hp.2, by rw [hp.1, hp.2]; rfl⟩
    · by_cases h : ρT 0 < 32
      · exact pr_go hT hI h
      · exact pr_end hI h
  · obtain ⟨v, u, a, b, rfl, rfl, ⟨la, -, ia⟩, ⟨lb, -, ib⟩⟩ := open2 ha
    refine WayL.of (dec := []) (fs := [.need 34 [[.l 0, .v 0, .v 1, .v 2, .v 3, .v 4, .v 5, .v 6, .v 7, .v 8, .v 9, .v 10, .v 11, .v 12, .v 13, .v 14, .v 15, .v 16, .v 17, .v 18, .v 19, .v 20, .v 21, .v 22, .v 23, .v 24, .v 25, .v 26, .v 27, .v 28, .v 29, .v 30, .v 31, .v 32, .v 33, .v 34, .v 35, .v 36, .v 37, .v 38, .v 39, .v 40, .v 41, .v 42, .v 43, .v 44, .v 45, .v 46, .v 47, .v 48, .v 49, .v 50, .v 51, .v 52, .v 53, .v 54, .v 55, .v 56, .v 57, .v 58, .v 59, .v 60, .v 61, .v 62, .v 63, .l 0, .l 0, .l 0, .l 0, .l 0, .l 0, .l 0, .l 0, .l 0, .l 0, .l 0, .l 0, .l 0, .l 0, .l 0, .l 0, .l 0, .l 0, .l 0, .l 0, .l 0, .l 0, .l 0, .l 0, .l 0, .l 0, .l 0, .l 0, .l 0, .l 0, .l 0, .l 0, .l 0, .l 0, .l 0, .l 0, .l 0, .l 0, .l 0, .l 0, .l 0, .l 0, .l 0, .l 0, .l 0, .l 0, .l 0, .l 0, .l 0, .l 0, .l 0, .l 0, .l 0, .l 0, .l 0, .l 0, .l 0, .l 0, .l 0, .l 0, .l 0, .l 0, .l 0, .l 0, .l 0]], .call 64 34 [[.l 0, .v 0, .v 1, .v 2, .v 3, .v 4, .v 5, .v 6, .v 7, .v 8, .v 9, .v 10, .v 11, .v 12, .v 13, .v 14, .v 15, .v 16, .v 17, .v 18, .v 19, .v 20, .v 21, .v 22, .v 23, .v 24, .v 25, .v 26, .v 27, .v 28, .v 29, .v 30, .v 31, .v 32, .v 33, .v 34, .v 35, .v 36, .v 37, .v 38, .v 39, .v 40, .v 41, .v 42, .v 43, .v 44, .v 45, .v 46, .v 47, .v 48, .v 49, .v 50, .v 51, .v 52, .v 53, .v 54, .v 55, .v 56, .v 57, .v 58, .v 59, .v 60, .v 61, .v 62, .v 63, .l 0, .l 0, .l 0, .l 0, .l 0, .l 0, .l 0, .l 0, .l 0, .l 0, .l 0, .l 0, .l 0, .l 0, .l 0, .l 0, .l 0, .l 0, .l 0, .l 0, .l 0, .l 0, .l 0, .l 0, .l 0, .l 0, .l 0, .l 0, .l 0, .l 0, .l 0, .l 0, .l 0, .l 0, .l 0, .l 0, .l 0, .l 0, .l 0, .l 0, .l 0, .l 0, .l 0, .l 0, .l 0, .l 0, .l 0, .l 0, .l 0, .l 0, .l 0, .l 0, .l 0, .l 0, .l 0, .l 0, .l 0, .l 0, .l 0, .l 0, .l 0, .l 0, .l 0, .l 0, .l 0]] 130, .conv 194 .u8 (.v 129), .conv 195 .u8 (.v 130), .conv 196 .u8 (.v 131), .conv 197 .u8 (.v 132), .conv 198 .u8 (.v 133), .conv 199 .u8 (.v 134), .conv 200 .u8 (.v 135), .conv 201 .u8 (.v 136), .conv 202 .u8 (.v 137), .conv 203 .u8 (.v 138), .conv 204 .u8 (.v 139), .conv 205 .u8 (.v 140), .conv 206 .u8 (.v 141), .conv 207 .u8 (.v 142), .conv 208 .u8 (.v 143), .conv 209 .u8 (.v 144), .conv 210 .u8 (.v 145), .conv 211 .u8 (.v 146), .conv 212 .u8 (.v 147), .conv 213 .u8 (.v 148), .conv 214 .u8 (.v 149), .conv 215 .u8 (.v 150), .conv 216 .u8 (.v 151), .conv 217 .u8 (.v 152), .conv 218 .u8 (.v 153), .conv 219 .u8 (.v 154), .conv 220 .u8 (.v 155), .conv 221 .u8 (.v 156), .conv 222 .u8 (.v 157), .conv 223 .u8 (.v 158), .conv 224 .u8 (.v 159), .conv 225 .u8 (.v 160), .conv 226 .u8 (.v 161), .conv 227 .u8 (.v 162), .conv 228 .u8 (.v 163), .conv 229 .u8 (.v 164), .conv 230 .u8 (.v 165), .conv 231 .u8 (.v 166), .conv 232 .u8 (.v 167), .conv 233 .u8 (.v 168), .conv 234 .u8 (.v 169), .conv 235 .u8 (.v 170), .conv 236 .u8 (.v 171), .conv 237 .u8 (.v 172), .conv 238 .u8 (.v 173), .conv 239 .u8 (.v 174), .conv 240 .u8 (.v 175), .conv 241 .u8 (.v 176), .conv 242 .u8 (.v 177), .conv 243 .u8 (.v 178), .conv 244 .u8 (.v 179), .conv 245 .u8 (.v 180), .conv 246 .u8 (.v 181), .conv 247 .u8 (.v 182), .conv 248 .u8 (.v 183), .conv 249 .u8 (.v 184), .conv 250 .u8 (.v 185), .conv 251 .u8 (.v 186), .conv 252 .u8 (.v 187), .conv 253 .u8 (.v 188), .conv 254 .u8 (.v 189), .conv 255 .u8 (.v 190), .conv 256 .u8 (.v 191), .conv 257 .u8 (.v 192)]) (refs := [.v 194, .v 195, .v 196, .v 197, .v 198, .v 199, .v 200, .v 201, .v 202, .v 203, .v 204, .v 205, .v 206, .v 207, .v 208, .v 209, .v 210, .v 211, .v 212, .v 213, .v 214, .v 215, .v 216, .v 217, .v 218, .v 219, .v 220, .v 221, .v 222, .v 223, .v 224, .v 225, .v 226, .v 227, .v 228, .v 229, .v 230, .v 231, .v 232, .v 233, .v 234, .v 235, .v 236, .v 237, .v 238, .v 239, .v 240, .v 241, .v 242, .v 243, .v 244, .v 245, .v 246, .v 247, .v 248, .v 249, .v 250, .v 251, .v 252, .v 253, .v 254, .v 255, .v 256, .v 257]) (by kernel_rfl) fun ρ hρ hd => ?_
    have ea : seg ρ 0 32 = a := seg_of (fun i hi => by
      rw [Nat.zero_add, hρ i (by show i < 64; omega)]
      simp only [flat, List.flatten_cons, List.flatten_nil, List.append_nil, List.getD_eq_getElem?_getD]
      rw [List.getElem?_append_left (by omega)]) la
    have eb : seg ρ 32 32 = b := seg_of (fun i hi => by
      rw [hρ (32 + i) (by show 32 + i < 64; omega)]
      simp only [flat, List.flatten_cons, List.flatten_nil, List.append_nil, List.getD_eq_getElem?_getD]
      rw [List.getElem?_append_right (by omega), la, Nat.add_sub_cancel_left]) lb
    simp only [D_nil, D_add, D_sub, D_mul, D_and, D_or, D_xor, D_shl, D_shr, D_andNot, D_quo, D_rem, D_add_i64, D_sub_i64, D_mul_i64, D_add_u32, D_sub_u32, D_mul_u32, D_add_u8, D_sub_u8, D_mul_u8, D_eql, D_neq, D_lss, D_leq, D_gtr, D_geq, D_not, D_conv, D_eqs, D_call, D_cond, D_need, D_idx, D_sel, D_upd, D_shv, D_beq, List.map_cons, List.map_nil, Ref.den, c_u8] at hd
    obtain ⟨h64, h194, h195, h196, h197, h198, h199, h200, h201, h202, h203, h204, h205, h206, h207, h208, h209, h210, h211, h212, h213, h214, h215, h216, h217, h218, h219, h220, h221, h222, h223, h224, h225, h226, h227, h228, h229, h230, h231, h232, h233, h234, h235, h236, h237, h238, h239, h240, h241, h242, h243, h244, h245, h246, h247, h248, h249, h250, h251, h252, h253, h254, h255, h256, h257, -⟩ := hd
    have dA := dig8s ia
    have dB := dig8s ib
    have s64 : ∀ i, i < 130 → ρ (64 + i) = ([32] ++ ((seg ρ 0 32 ++ seg ρ 32 32) ++ prodN (seg ρ 0 32) (seg ρ 32 32) (List.replicate 65 0) 32)).getD i 0 := fun i hi => h64 i hi
    rw [ea, eb] at s64
    have hok := prodN_ok dA dB la lb 32 (by omega)
    have hby := prodN_bytes dA dB la lb
    obtain ⟨z, hz⟩ : ∃ z, z = prodN a b (List.replicate 65 0) 32 := ⟨_, rfl⟩
    rw [← hz] at s64 hok hby
    have l2 : (a ++ b).length = 64 := by rw [List.length_append]; omega
    have st : seg ρ 129 65 = z := by
      have := seg_end [32] (a ++ b) z
      rw [l2, hok.1] at this
      rw [← this]
      exact seg_congr fun i hi => by rw [show 129 + i = 64 + (65 + i) by omega]; exact s64 _ (by omega)
    have st64 : seg ρ 129 64 = z.take 64 := by
      rw [← st]; exact (List.take_left' (l₁ := seg ρ 129 64) (l₂ := seg ρ 193 1) (by rw [seg_len])).symm
    have sm : seg ρ 194 64 = (seg ρ 129 64).map (fun x => x % 256) := by
      show [ρ 194, ρ 195, ρ 196, ρ 197, ρ 198, ρ 199, ρ 200, ρ 201, ρ 202, ρ 203, ρ 204, ρ 205, ρ 206, ρ 207, ρ 208, ρ 209, ρ 210, ρ 211, ρ 212, ρ 213, ρ 214, ρ 215, ρ 216, ρ 217, ρ 218, ρ 219, ρ 220, ρ 221, ρ 222, ρ 223, ρ 224, ρ 225, ρ 226, ρ 227, ρ 228, ρ 229, ρ 230, ρ 231, ρ 232, ρ 233, ρ 234, ρ 235, ρ 236, ρ 237, ρ 238, ρ 239, ρ 240, ρ 241, ρ 242, ρ 243, ρ 244, ρ 245, ρ 246, ρ 247, ρ 248, ρ 249, ρ 250, ρ 251, ρ 252, ρ 253, ρ 254, ρ 255, ρ 256, ρ 257] = [ρ 129 % 256, ρ 130 % 256, ρ 131 % 256, ρ 132 % 256, ρ 133 % 256, ρ 134 % 256, ρ 135 % 256, ρ 136 % 256, ρ 137 % 256, ρ 138 % 256, ρ 139 % 256, ρ 140 % 256, ρ 141 % 256, ρ 142 % 256, ρ 143 % 256, ρ 144 % 256, ρ 145 % 256, ρ 146 % 256, ρ 147 % 256, ρ 148 % 256, ρ 149 % 256, ρ 150 % 256, ρ 151 % 256, ρ 152 % 256, ρ 153 % 256, ρ 154 % 256, ρ 155 % 256, ρ 156 % 256, ρ 157 % 256, ρ 158 % 256, ρ 159 % 256, ρ 160 % 256, ρ 161 % 256, ρ 162 % 256, ρ 163 % 256, ρ 164 % 256, ρ 165 % 256, ρ 166 % 256, ρ 167 % 256, ρ 168 % 256, ρ 169 % 256, ρ 170 % 256, ρ 171 % 256, ρ 172 % 256, ρ 173 % 256, ρ 174 % 256, ρ 175 % 256, ρ 176 % 256, ρ 177 % 256, ρ 178 % 256, ρ 179 % 256, ρ 180 % 256, ρ 181 % 256, ρ 182 % 256, ρ 183 % 256, ρ 184 % 256, ρ 185 % 256, ρ 186 % 256, ρ 187 % 256, ρ 188 % 256, ρ 189 % 256, ρ 190 % 256, ρ 191 % 256, ρ 192 % 256]
      rw [h194, h195, h196, h197, h198, h199, h200, h201, h202, h203, h204, h205, h206, h207, h208, h209, h210, h211, h212, h213, h214, h215, h216, h217, h218, h219, h220, h221, h222, h223, h224, h225, h226, h227, h228, h229, h230, h231, h232, h233, h234, h235, h236, h237, h238, h239, h240, h241, h242, h243, h244, h245, h246, h247, h248, h249, h250, h251, h252, h253, h254, h255, h256, h257]
    refine ⟨?_, ?_⟩
    · simp only [G_nil, G_bin, G_cmp, G_not, G_conv, G_eqs, G_call, G_cond, G_need, G_idx, G_sel, G_upd, G_shv, G_beq, List.map_cons, List.map_nil, Ref.den]
      exact ⟨⟨rfl, rfl⟩, trivial⟩
    · show seg ρ 194 64 = dg 256 64 (dv 256 a * dv 256 b)
      rw [sm, st64, hby]
      have hd := dg_dig (b := 256) (by decide) 64 (dv 256 a * dv 256 b)
      generalize dg 256 64 (dv 256 a * dv 256 b) = l at *
      refine (List.map_congr_left fun x hx => ?_).trans (List.map_id _)
      have := hd.d x hx
      exact Int.emod_eq_of_lt this.1 this.2
#print axioms okProd
end Go.Proofs.Ytokndemdmkaofaa
