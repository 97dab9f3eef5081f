/- ChachaKnown: the walk. No condition. -/
import Derived.Test.YtokndemdmkaofaaCha6
namespace Go.Proofs.Ytokndemdmkaofaa.chachaKnown
open Go.RowKit Go.Bx

def z32 : List UInt8 := List.replicate 32 0
def z12 : List UInt8 := List.replicate 12 0
theorem quarterK (w : World) : Calls Try.prog 14 #[.int .u32 286331153, .int .u32 16909060, .int .u32 2609737539, .int .u32 19088743] w fun e w' =>
      e = .returned (.tuple #[.int .u32 3928658676, .int .u32 3407673550, .int .u32 1166100270, .int .u32 1484899515]) ∧ w' = w := by
  have := quarter_any 286331153 16909060 2609737539 19088743 (by decide) (by decide) (by decide) (by decide) w
  rw [show qr (Int.toNat 286331153) (Int.toNat 16909060) (Int.toNat 2609737539) (Int.toNat 19088743) = ⟨3928658676, 3407673550, 1166100270, 1484899515⟩ from by kernel_rfl] at this
  exact this
theorem xor65 (W : World) : Calls Try.prog 15 #[.agg (bvs z32).toArray, .int .u32 4294967295, .agg (bvs z12).toArray, .slice (some ⟨W.heap.size, 0, none⟩) 65 65] (W.alloc (.cells (bvs (List.replicate 65 0)).toArray 5)) fun e w' =>
    e = .returned (.tuple #[.slice none 0 0, .int .i64 1]) ∧ Below W.heap.size W w' := by
  refine (xor4_bad z32 z12 4294967295 _ (List.replicate 65 0) _ ⟨by decide, by decide⟩ (Own.ofBox (B := 0) (laid0 _ _) (Nat.zero_le _) (by decide)).sl ⟨by decide⟩ (by decide)).mono ?_
  rintro e w' ⟨rfl, hb⟩
  exact ⟨rfl, ((Below.refl _ _).alloc (Nat.le_refl _) _).trans (hb.mono (by simp))⟩
theorem xor64 (W : World) : Calls Try.prog 15 #[.agg (bvs z32).toArray, .int .u32 4294967295, .agg (bvs z12).toArray, .slice (some ⟨W.heap.size, 0, none⟩) 64 64] (W.alloc (.cells (bvs (List.replicate 64 0)).toArray 5)) fun e w' =>
    (∃ r, e = .returned (.tuple #[r, .int .i64 0])) ∧ Below W.heap.size W w' := by
  refine (xor4_ok z32 z12 rfl rfl 4294967295 _ (List.replicate 64 0) _ (Own.ofBox (B := 0) (laid0 _ _) (Nat.zero_le _) (by decide)).sl ⟨by decide⟩ (by decide)).mono ?_
  rintro e w' ⟨r, rfl, _, hb⟩
  exact ⟨⟨r, rfl⟩, ((Below.refl _ _).alloc (Nat.le_refl _) _).trans (hb.mono (by simp))⟩
theorem xor0 (W : World) : Calls Try.prog 15 #[.agg (bvs z32).toArray, .int .u32 5, .agg (bvs z12).toArray, .slice none 0 0] W fun e w' =>
    (∃ a c, e = .returned (.tuple #[.slice a 0 c, .int .i64 0])) ∧ Below W.heap.size W w' := by
  refine (xor4_ok z32 z12 rfl rfl 5 _ [] _ (Sl.zero _ _) ⟨by decide⟩ (by decide)).mono ?_
  rintro e w' ⟨r, rfl, ho, hb⟩
  obtain ⟨a, c, rfl⟩ := ho.form
  exact ⟨⟨a, c, rfl⟩, hb⟩
set_option maxHeartbeats 4000000 in
set_option maxRecDepth 100000 in
theorem walk (w : World) :
    Calls Try.prog 4 #[] w fun e w' => e = .returned (.bool true) ∧ Below w.heap.size w w' := by
  obtain ⟨i0, hi, hz0, hz1, hz2⟩ := info_parts infoB
  have hmk : ∀ W : World, (Instr.makeSlice 28 (.int .i64 65) (.int .i64 65)).run Try.prog W = .ok (.slice (some ⟨W.heap.size, 0, none⟩) 65 65) (W.alloc (.cells (bvs (List.replicate 65 0)).toArray 5)) := by
    intro W
    have hr := run_make (P := Try.prog) W 28 5 i0 (.int .u8 0) Try.underlying28 hi hz0 .i64 .i64 65 65 (by omega) (by omega) (by rw [hz2]; omega) (by omega)
    rw [show (65 : Int).toNat = 65 from rfl, hz1, made_bytes] at hr
    exact hr
  have hmk2 : ∀ W : World, (Instr.makeSlice 28 (.int .i64 64) (.int .i64 64)).run Try.prog W = .ok (.slice (some ⟨W.heap.size, 0, none⟩) 64 64) (W.alloc (.cells (bvs (List.replicate 64 0)).toArray 5)) := by
    intro W
    have hr := run_make (P := Try.prog) W 28 5 i0 (.int .u8 0) Try.underlying28 hi hz0 .i64 .i64 64 64 (by omega) (by omega) (by rw [hz2]; omega) (by omega)
    rw [show (64 : Int).toNat = 64 from rfl, hz1, made_bytes] at hr
    exact hr
  clear hi hz0 hz1 hz2
  go_enter Try.func4, Try.ntmps4
  go_wp2_with (go_at_call 13; refine (awake4_any _).mono ?_; rintro e w1 ⟨rfl, hb1⟩; have B1 := Held.mk hb1; clear hb1)
  refine (quarterK _).mono ?_
  rintro e w2 ⟨rfl, rfl⟩
  go_wp2_with fail
  refine (xor65 _).mono ?_
  rintro e w3 ⟨rfl, hb3⟩
  have B3 := Held.mk (B1.out.trans (hb3.mono B1.out.size))
  clear hb3 B1
  go_wp2_with fail
  refine (xor64 _).mono ?_
  rintro e w4 ⟨⟨r4, rfl⟩, hb4⟩
  have B4 := Held.mk (B3.out.trans (hb4.mono B3.out.size))
  clear hb4 B3
  go_wp2_with fail
  refine (xor0 _).mono ?_
  rintro e w5 ⟨⟨a5, c5, rfl⟩, hb5⟩
  have B5 := Held.mk (B4.out.trans (hb5.mono B4.out.size))
  clear hb5 B4
  go_wp2
  go_ret
  exact ⟨rfl, B5.out⟩
end Go.Proofs.Ytokndemdmkaofaa.chachaKnown
