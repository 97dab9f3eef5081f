/- OctetKnown: the walk. No condition. -/
import Derived.Test.YtlmegcbiijkmaaaOct3
namespace Go.Proofs.Ytlmegcbiijkmaaa.octetKnown
open Go.RowKit Go.Bx

theorem uh (s : ByteArray) (hs : s.data.toList.length ≤ 100) (l : List UInt8) (e : Int) (h1 : unV s.data.toList = l) (h2 : unE s.data.toList = e) (w : World) :
    Calls Try.prog 50 #[.string s] w fun x w' => ∃ r, x = .returned (.tuple #[r, .int .i64 e]) ∧ Own w' w.heap.size 1 r l.length (bvs l) ∧ Below w.heap.size w w' := by
  have := unhex_any s ⟨by omega⟩ w
  rwa [h1, h2] at this
theorem fl (l : List UInt8) (h8 : l.length ≤ 100) (v e : Int) (h1 : frbV l.reverse = v) (h2 : frbE l.reverse = e) (x : Value) (w : World) (h : Sl w 1 x l.length (bvs l)) :
    Calls Try.prog 52 #[x] w fun x w' => x = .returned (.tuple #[.int .u64 v, .int .i64 e]) ∧ Below w.heap.size w w' := by
  have := fromLittle_any x l w h ⟨by omega⟩
  rwa [h1, h2] at this
/-- Two literals laid one behind the other. -/
theorem lits (w : World) : Sl ((w.alloc (.cells #[.int .u8 1] 5)).alloc (.cells #[.int .u8 1, .int .u8 2] 5)) 1 (.slice (some ⟨w.heap.size, 0, none⟩) 1 1) 1 (bvs [1]) ∧
    Sl ((w.alloc (.cells #[.int .u8 1] 5)).alloc (.cells #[.int .u8 1, .int .u8 2] 5)) 1 (.slice (some ⟨w.heap.size + 1, 0, none⟩) 2 2) 2 (bvs [1, 2]) ∧
    Below w.heap.size w ((w.alloc (.cells #[.int .u8 1] 5)).alloc (.cells #[.int .u8 1, .int .u8 2] 5)) := by
  refine ⟨(Sl.lit w [1] 5 (by decide)).grow ((Below.refl _ _).alloc (Nat.le_refl _) _), ?_, ((Below.refl _ _).alloc (Nat.le_refl _) _).alloc (by simp) _⟩
  have := Sl.lit (w.alloc (.cells #[.int .u8 1] 5)) [1, 2] 5 (by decide)
  rwa [show (w.alloc (.cells #[.int .u8 1] 5)).heap.size = w.heap.size + 1 from by simp] at this
set_option maxHeartbeats 4000000 in
set_option maxRecDepth 100000 in
theorem walk (w : World) :
    Calls Try.prog 12 #[] w fun e w' => e = .returned (.bool true) ∧ Below w.heap.size w w' := by
  obtain ⟨i0, hi, hz0, hz1, hz2⟩ := info_parts infoB
  have hmk : ∀ W : World, (Instr.makeSlice 23 (.int .i64 9) (.int .i64 9)).run Try.prog W = .ok (.slice (some ⟨W.heap.size, 0, none⟩) 9 9) (W.alloc (.cells (bvs (List.replicate 9 0)).toArray 5)) := by
    intro W
    have hr := run_make (P := Try.prog) W 23 5 i0 (.int .u8 0) Try.underlying23 hi hz0 .i64 .i64 9 9 (by omega) (by omega) (by rw [hz2]; omega) (by omega)
    rw [show (9 : Int).toNat = 9 from rfl, hz1, made_bytes] at hr
    exact hr
  clear hi hz0 hz1 hz2
  go_enter Try.func12, Try.ntmps12
  go_wp2_with (go_at_call 46; refine (awake1_any _).mono ?_; rintro e w1 ⟨rfl, hb1⟩)
  refine (uh _ (by decide) [] 3 (by decide +kernel) (by decide +kernel) _).mono ?_
  rintro e w2 ⟨r2, rfl, _, hb2⟩
  have B2 := Held.mk (hb1.trans (hb2.mono hb1.size))
  clear hb1 hb2
  go_wp2_with fail
  refine (uh _ (by decide) [] 3 (by decide +kernel) (by decide +kernel) _).mono ?_
  rintro e w3 ⟨r3, rfl, _, hb3⟩
  have B3 := Held.mk (B2.out.trans (hb3.mono B2.out.size))
  clear hb3 B2
  go_wp2_with fail
  refine (uh _ (by decide) [] 3 (by decide +kernel) (by decide +kernel) _).mono ?_
  rintro e w4 ⟨r4, rfl, _, hb4⟩
  have B4 := Held.mk (B3.out.trans (hb4.mono B3.out.size))
  clear hb4 B3
  go_wp2_with fail
  refine (uh _ (by decide) [255, 0] 0 (by decide +kernel) (by decide +kernel) _).mono ?_
  rintro e w5 ⟨r5, rfl, ho, hb5⟩
  have B5 := Held.mk (B4.out.trans (hb5.mono B4.out.size))
  have S5 := Held.mk ho.sl
  clear hb5 B4 ho
  go_wp2_with fail
  refine (fromBig_any _ [] _ (Sl.zero _ _)).mono ?_
  rintro e w6 ⟨rfl, rfl⟩
  rw [show frbV [] = 0 from rfl, show frbE [] = 0 from rfl]
  go_wp2_with fail
  refine (fl (List.replicate 9 0) (by decide) 0 1 (by decide +kernel) (by decide +kernel) _ _ (Sl.lit _ _ _ (by decide))).mono ?_
  rintro e w7 ⟨rfl, hb7⟩
  have hb7' := ((Below.refl _ _).alloc (Nat.le_refl _) _).trans (hb7.mono (by simp))
  have B7 := Held.mk (B5.out.trans (hb7'.mono B5.out.size))
  have S7 := Held.mk (S5.out.grow hb7')
  clear hb7 hb7' B5 S5
  go_wp2_with fail
  refine (fl [1, 2] (by decide) 513 0 (by decide +kernel) (by decide +kernel) _ _ (Sl.lit _ [1, 2] _ (by decide))).mono ?_
  rintro e w8 ⟨rfl, hb8⟩
  have hb8' := ((Below.refl _ _).alloc (Nat.le_refl _) _).trans (hb8.mono (by simp))
  have B8 := Held.mk (B7.out.trans (hb8'.mono B7.out.size))
  have S8 := Held.mk (S7.out.grow hb8')
  clear hb8 hb8' B7 S7
  have hcv : (convert 23 9 r5).run Try.prog w8 = .ok (.string ⟨[255, 0].toArray⟩) w8 := S8.out.str 23 9 5 Try.underlying9 Try.underlying23 Try.underlying5
  go_wp2_with fail
  clear hcv
  refine (big_any _ [] 5 (by decide) (by decide) (-3) _ (Sl.zero _ _) ⟨by decide⟩).mono ?_
  rintro e w9 ⟨r9, rfl, ho9, hb9⟩
  rw [show [] ++ bigB (Int.toNat 5) (held8 (-3)) = [] from by decide +kernel] at ho9
  obtain ⟨a9, c9, rfl⟩ := ho9.form
  have B9 := Held.mk (B8.out.trans (hb9.mono B8.out.size))
  clear hb9 B8 ho9 S8
  go_wp2_with fail
  refine (little_any _ [] 5 (by decide) (by decide) 99 _ (Sl.zero _ _) ⟨by decide⟩).mono ?_
  rintro e w10 ⟨r10, rfl, ho10, hb10⟩
  rw [show [] ++ litB (Int.toNat 5) (held8 99) = [5, 0, 0, 0, 0, 0, 0, 0] from by decide +kernel] at ho10
  obtain ⟨a10, c10, rfl⟩ := ho10.form
  have B10 := Held.mk (B9.out.trans (hb10.mono B9.out.size))
  clear hb10 B9 ho10
  go_wp2_with fail
  have L11 := lits w10
  refine (equal_any _ _ [1] [1, 2] _ L11.1 L11.2.1 ⟨by decide⟩ ⟨by decide⟩).mono ?_
  rintro e w11 ⟨rfl, q11, hw11⟩
  rw [show (([1] : List UInt8) == [1, 2]) = false from by decide]
  have B11 : Held (Below w.heap.size w w11) := ⟨by rw [hw11]; exact B10.out.trans ((below_drewN L11.2.2 _).mono B10.out.size)⟩
  clear B10 L11 hw11
  go_wp2_with fail
  have L12 : Sl (w11.alloc (.cells #[] 5)) 1 (.slice (some ⟨w11.heap.size, 0, none⟩) 0 0) 0 (bvs []) := Sl.lit w11 [] 5 (by decide)
  refine (equal_any _ _ [] [] _ (Sl.zero _ _) L12 ⟨by decide⟩ ⟨by decide⟩).mono ?_
  rintro e w12 ⟨rfl, q12, hw12⟩
  rw [show (([] : List UInt8) == []) = true from by decide]
  have B12 : Held (Below w.heap.size w w12) := ⟨by rw [hw12]; exact below_drewN (B11.out.alloc B11.out.size _) _⟩
  clear B11 L12 hw12
  go_wp2_with fail
  have L13 : Sl (w12.alloc (.cells #[.int .u8 1] 5)) 1 (.slice (some ⟨w12.heap.size, 0, none⟩) 1 1) 1 (bvs [1]) := Sl.lit w12 [1] 5 (by decide)
  refine (xor_any _ _ [1] [] _ L13 (Sl.zero _ _) ⟨by decide⟩ ⟨by decide⟩).mono ?_
  rintro e w13 ⟨r13, rfl, ho13, hb13⟩
  rw [show xorB [1] [] = [] from rfl] at ho13
  obtain ⟨a13, c13, rfl⟩ := ho13.form
  have B13 : Held (Below w.heap.size w w13) := ⟨(B12.out.alloc B12.out.size _).trans (hb13.mono (Nat.le_trans B12.out.size (by simp)))⟩
  clear B12 L13 hb13 ho13
  go_wp2_with fail
  go_ret
  exact ⟨rfl, B13.out⟩
end Go.Proofs.Ytlmegcbiijkmaaa.octetKnown
