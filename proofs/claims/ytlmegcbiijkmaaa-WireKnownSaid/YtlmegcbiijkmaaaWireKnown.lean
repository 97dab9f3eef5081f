/- The law WireKnown returns true. No condition. -/
import Derived.Test.YtlmegcbiijkmaaaWire3
import Derived.Test.YtlmegcbiijkmaaaWireLaws
import Derived.Test.YtlmegcbiijkmaaaEq
namespace Go.Proofs.Ytlmegcbiijkmaaa.wireKnown
open Go.RowKit Go.Bx Go.Proofs.Ytlmegcbiijkmaaa

set_option maxRecDepth 100000 in
set_option maxHeartbeats 8000000 in
theorem walk (w : World) : Calls Try.prog 4 #[] w fun e w' => e = .returned (.bool true) ∧ Below w.heap.size w w' := by
  have hB0 : Below w.heap.size w w := Below.refl _ _
  obtain ⟨i0, hi, hz0, hz1, hz2⟩ := info_parts infoB
  have hEq : ∀ w, (Op.equalIn 10000 31 (.agg (bvs (zeros 32)).toArray) (.agg #[.int .u8 0, .int .u8 0, .int .u8 0, .int .u8 0, .int .u8 0, .int .u8 0, .int .u8 0, .int .u8 0, .int .u8 0, .int .u8 0, .int .u8 0, .int .u8 0, .int .u8 0, .int .u8 0, .int .u8 0, .int .u8 0, .int .u8 0, .int .u8 0, .int .u8 0, .int .u8 0, .int .u8 0, .int .u8 0, .int .u8 0, .int .u8 0, .int .u8 0, .int .u8 0, .int .u8 0, .int .u8 0, .int .u8 0, .int .u8 0, .int .u8 0, .int .u8 0])).run Try.prog w = .ok true w := fun w => run_eqBytes w 31 5 32 Try.underlying31 Try.underlying5 hi hz1 (zeros 32) (zeros 32) rfl rfl
  clear hi hz0 hz1 hz2
  go_enter Try.func4, Try.ntmps4
  go_wp2_with fail
  refine (awake11_any _).mono ?_
  rintro e w1 ⟨rfl, hb1⟩
  have hz1 := hb1.size
  have hB1 : Below w.heap.size w w1 := hb1
  clear hb1
  go_wp2_with fail
  refine (read_any _ ([128, 0] : List UInt8) _ (Sl.lit _ [128, 0] _ (by decide)) ⟨by decide⟩).mono ?_
  rintro e w2 ⟨g1, q1, rfl, hr, hg1, hq1, hb2⟩
  have hz2 := hb2.size
  rw [World.size_alloc] at hz2
  have hB2 : Below w.heap.size w w2 := (hB1.alloc hB1.size _).trans (hb2.mono (Nat.le_trans hB1.size (by simp)))
  rw [World.size_alloc] at hg1 hq1
  have hlt1 := hr.lt
  have hbk1 := hr.blk (by decide)
  have HR1 := Held.mk hr
  clear hr hb2
  go_wp2_with fail
  refine (read_any _ ([5] : List UInt8) _ (Sl.lit _ [5] _ (by decide)) ⟨by decide⟩).mono ?_
  rintro e w3 ⟨g2, q2, rfl, hr, hg2, hq2, hb3⟩
  have hz3 := hb3.size
  rw [World.size_alloc] at hz3
  have hB3 : Below w.heap.size w w3 := (hB2.alloc hB2.size _).trans (hb3.mono (Nat.le_trans hB2.size (by simp)))
  rw [World.size_alloc] at hg2 hq2
  have HR1 := Held.mk (HR1.out.grow (((Below.refl _ _).alloc (Nat.le_refl _) _).trans (hb3.mono (by simp))))
  have hlt2 := hr.lt
  have hbk2 := hr.blk (by decide)
  have HR2 := Held.mk hr
  clear hr hb3
  go_wp2_with fail
  refine (read_any _ ([3, 1, 2] : List UInt8) _ (Sl.lit _ [3, 1, 2] _ (by decide)) ⟨by decide⟩).mono ?_
  rintro e w4 ⟨g3, q3, rfl, hr, hg3, hq3, hb4⟩
  have hz4 := hb4.size
  rw [World.size_alloc] at hz4
  have hB4 : Below w.heap.size w w4 := (hB3.alloc hB3.size _).trans (hb4.mono (Nat.le_trans hB3.size (by simp)))
  rw [World.size_alloc] at hg3 hq3
  have HR1 := Held.mk (HR1.out.grow (((Below.refl _ _).alloc (Nat.le_refl _) _).trans (hb4.mono (by simp))))
  have HR2 := Held.mk (HR2.out.grow (((Below.refl _ _).alloc (Nat.le_refl _) _).trans (hb4.mono (by simp))))
  have hlt3 := hr.lt
  have hbk3 := hr.blk (by decide)
  have HR3 := Held.mk hr
  clear hr hb4
  go_wp2_with fail
  refine (read_any _ ([] : List UInt8) _ (Sl.zero _ _) ⟨by decide⟩).mono ?_
  rintro e w5 ⟨g4, q4, rfl, hr, hg4, hq4, hb5⟩
  have hz5 := hb5.size
  have hB5 : Below w.heap.size w w5 := hB4.trans (hb5.mono hB4.size)
  have HR1 := Held.mk (HR1.out.grow hb5)
  have HR2 := Held.mk (HR2.out.grow hb5)
  have HR3 := Held.mk (HR3.out.grow hb5)
  have hlt4 := hr.lt
  have HR4 := Held.mk hr
  clear hr hb5
  go_wp2_with fail
  refine (num_nil _ _ ⟨by decide, by decide⟩).mono ?_
  rintro e w6 ⟨r, rfl, ho, hb6⟩
  rw [show enc (Int.toNat 9223372036854775807) = [255, 255, 255, 255, 255, 255, 255, 255, 127] from by decide] at ho
  have hz6 := hb6.size
  have hB6 : Below w.heap.size w w6 := hB5.trans (hb6.mono hB5.size)
  have HR1 := Held.mk (HR1.out.grow hb6)
  have HR2 := Held.mk (HR2.out.grow hb6)
  have HR3 := Held.mk (HR3.out.grow hb6)
  have HR4 := Held.mk (HR4.out.grow hb6)
  obtain ⟨ra, rc, rfl⟩ := ho.form
  have HO := Held.mk ho
  clear ho hb6
  go_wp2_with fail
  refine (read_any _ ([255, 255, 255, 255, 255, 255, 255, 255, 127] : List UInt8) _ HO.out.sl ⟨by decide⟩).mono ?_
  rintro e w7 ⟨g5, q5, rfl, hr, hg5, hq5, hb7⟩
  have hz7 := hb7.size
  have hB7 : Below w.heap.size w w7 := hB6.trans (hb7.mono hB6.size)
  have HR1 := Held.mk (HR1.out.grow hb7)
  have HR2 := Held.mk (HR2.out.grow hb7)
  have HR3 := Held.mk (HR3.out.grow hb7)
  have HR4 := Held.mk (HR4.out.grow hb7)
  have hlt5 := hr.lt
  have hbk5 := hr.blk (by decide)
  have HR5 := Held.mk hr
  clear hr hb7
  go_wp2_with fail
  refine (read_any _ ([255, 255, 255, 255, 255, 255, 255, 255, 255, 1] : List UInt8) _ (Sl.lit _ [255, 255, 255, 255, 255, 255, 255, 255, 255, 1] _ (by decide)) ⟨by decide⟩).mono ?_
  rintro e w8 ⟨g6, q6, rfl, hr, hg6, hq6, hb8⟩
  have hz8 := hb8.size
  rw [World.size_alloc] at hz8
  have hB8 : Below w.heap.size w w8 := (hB7.alloc hB7.size _).trans (hb8.mono (Nat.le_trans hB7.size (by simp)))
  rw [World.size_alloc] at hg6 hq6
  have HR1 := Held.mk (HR1.out.grow (((Below.refl _ _).alloc (Nat.le_refl _) _).trans (hb8.mono (by simp))))
  have HR2 := Held.mk (HR2.out.grow (((Below.refl _ _).alloc (Nat.le_refl _) _).trans (hb8.mono (by simp))))
  have HR3 := Held.mk (HR3.out.grow (((Below.refl _ _).alloc (Nat.le_refl _) _).trans (hb8.mono (by simp))))
  have HR4 := Held.mk (HR4.out.grow (((Below.refl _ _).alloc (Nat.le_refl _) _).trans (hb8.mono (by simp))))
  have HR5 := Held.mk (HR5.out.grow (((Below.refl _ _).alloc (Nat.le_refl _) _).trans (hb8.mono (by simp))))
  have hlt6 := hr.lt
  have hbk6 := hr.blk (by decide)
  have HR6 := Held.mk hr
  clear hr hb8
  go_wp2_with fail
  refine (rnum_any g1 q1 ([128, 0] : List UInt8) false 9 _ HR1.out).mono ?_
  rintro e w9 ⟨he, hr, hf9⟩
  rw [show numV 9 [128, 0] = 0 from by decide] at he; rw [show numL 9 [128, 0] = [] from by decide, show numB 9 [128, 0] false = true from by decide] at hr
  subst he
  have hz9 := hf9.size
  have hB9 : Below w.heap.size w w9 := hB8.trans (hf9.below hB8.size (fun k hk e => by omega))
  have HR2 := Held.mk (HR2.out.fr hf9 (by omega) (fun h => by omega))
  have HR3 := Held.mk (HR3.out.fr hf9 (by omega) (fun h => by omega))
  have HR4 := Held.mk (HR4.out.fr hf9 (by omega) (fun h => by simp at h))
  have HR5 := Held.mk (HR5.out.fr hf9 (by omega) (fun h => by omega))
  have HR6 := Held.mk (HR6.out.fr hf9 (by omega) (fun h => by omega))
  have HR1 := Held.mk hr
  clear hr hf9
  go_wp2_with fail
  refine (rbad_any g1 q1 _ _ _ HR1.out).mono ?_
  rintro e wx ⟨rfl, rfl⟩
  go_wp2_with fail
  refine (rnum_any g2 q2 ([5] : List UInt8) false 4 _ HR2.out).mono ?_
  rintro e w10 ⟨he, hr, hf10⟩
  rw [show numV 4 [5] = 0 from by decide] at he; rw [show numL 4 [5] = [] from by decide, show numB 4 [5] false = true from by decide] at hr
  subst he
  have hz10 := hf10.size
  have hB10 : Below w.heap.size w w10 := hB9.trans (hf10.below hB9.size (fun k hk e => by omega))
  have HR3 := Held.mk (HR3.out.fr hf10 (by omega) (fun h => by omega))
  have HR4 := Held.mk (HR4.out.fr hf10 (by omega) (fun h => by simp at h))
  have HR5 := Held.mk (HR5.out.fr hf10 (by omega) (fun h => by omega))
  have HR6 := Held.mk (HR6.out.fr hf10 (by omega) (fun h => by omega))
  have HR2 := Held.mk hr
  clear hr hf10
  go_wp2_with fail
  refine (rbad_any g2 q2 _ _ _ HR2.out).mono ?_
  rintro e wx ⟨rfl, rfl⟩
  go_wp2_with fail
  refine (rbytes_any g3 q3 ([3, 1, 2] : List UInt8) false 9 _ HR3.out ⟨by decide⟩).mono ?_
  rintro e w11 ⟨r, rfl, ho, hr, hf11⟩
  rw [show bytV 9 [3, 1, 2] = [] from by decide] at ho; rw [show bytL 9 [3, 1, 2] = [] from by decide, show bytB 9 [3, 1, 2] false = true from by decide] at hr
  obtain ⟨ra, rc, rfl⟩ := ho.form
  clear ho
  have hz11 := hf11.size
  have hB11 : Below w.heap.size w w11 := hB10.trans (hf11.below hB10.size (fun k hk e => by omega))
  have HR4 := Held.mk (HR4.out.fr hf11 (by omega) (fun h => by simp at h))
  have HR5 := Held.mk (HR5.out.fr hf11 (by omega) (fun h => by omega))
  have HR6 := Held.mk (HR6.out.fr hf11 (by omega) (fun h => by omega))
  have HR3 := Held.mk hr
  clear hr hf11
  go_wp2_with fail
  refine (rbad_any g3 q3 _ _ _ HR3.out).mono ?_
  rintro e wx ⟨rfl, rfl⟩
  go_wp2_with fail
  refine (rend_any g3 q3 _ _ _ HR3.out).mono ?_
  rintro e wx ⟨rfl, rfl⟩
  go_wp2_with fail
  refine (rend_any g4 q4 _ _ _ HR4.out).mono ?_
  rintro e wx ⟨rfl, rfl⟩
  go_wp2_with fail
  refine (rword_any g4 q4 ([] : List UInt8) false _ HR4.out ⟨by decide⟩).mono ?_
  rintro e w12 ⟨he, hr, hf12⟩
  rw [show wordV [] = zeros 32 from rfl] at he; rw [show takeL 32 [] = [] from by decide, show takeB 32 [] false = true from by decide] at hr
  subst he
  have hz12 := hf12.size
  have hB12 : Below w.heap.size w w12 := hB11.trans (hf12.below hB11.size (fun k hk e => by omega))
  have HR5 := Held.mk (HR5.out.fr hf12 (by omega) (fun h => by omega))
  have HR6 := Held.mk (HR6.out.fr hf12 (by omega) (fun h => by omega))
  have HR4 := Held.mk hr
  clear hr hf12
  go_wp2_with fail
  refine (rbad_any g4 q4 _ _ _ HR4.out).mono ?_
  rintro e wx ⟨rfl, rfl⟩
  go_wp2_with fail
  refine (rnum_any g5 q5 ([255, 255, 255, 255, 255, 255, 255, 255, 127] : List UInt8) false 9223372036854775807 _ HR5.out).mono ?_
  rintro e w13 ⟨he, hr, hf13⟩
  rw [show numV 9223372036854775807 [255, 255, 255, 255, 255, 255, 255, 255, 127] = 9223372036854775807 from by decide] at he; rw [show numL 9223372036854775807 [255, 255, 255, 255, 255, 255, 255, 255, 127] = [] from by decide, show numB 9223372036854775807 [255, 255, 255, 255, 255, 255, 255, 255, 127] false = false from by decide] at hr
  subst he
  have hz13 := hf13.size
  have hB13 : Below w.heap.size w w13 := hB12.trans (hf13.below hB12.size (fun k hk e => by omega))
  have HR6 := Held.mk (HR6.out.fr hf13 (by omega) (fun h => by omega))
  have HR5 := Held.mk hr
  clear hr hf13
  go_wp2_with fail
  refine (rend_any g5 q5 _ _ _ HR5.out).mono ?_
  rintro e wx ⟨rfl, rfl⟩
  go_wp2_with fail
  refine (rnum_any g6 q6 ([255, 255, 255, 255, 255, 255, 255, 255, 255, 1] : List UInt8) false 9223372036854775807 _ HR6.out).mono ?_
  rintro e w14 ⟨he, hr, hf14⟩
  rw [show numV 9223372036854775807 [255, 255, 255, 255, 255, 255, 255, 255, 255, 1] = 0 from by decide] at he; rw [show numL 9223372036854775807 [255, 255, 255, 255, 255, 255, 255, 255, 255, 1] = [] from by decide, show numB 9223372036854775807 [255, 255, 255, 255, 255, 255, 255, 255, 255, 1] false = true from by decide] at hr
  subst he
  have hz14 := hf14.size
  have hB14 : Below w.heap.size w w14 := hB13.trans (hf14.below hB13.size (fun k hk e => by omega))
  have HR6 := Held.mk hr
  clear hr hf14
  go_wp2_with fail
  refine (rbad_any g6 q6 _ _ _ HR6.out).mono ?_
  rintro e wx ⟨rfl, rfl⟩
  go_wp2_with fail
  refine (num_nil _ _ ⟨by decide, by decide⟩).mono ?_
  rintro e w15 ⟨r, rfl, ho, hb15⟩
  rw [show enc (Int.toNat (-5)) = [0] from by decide] at ho
  have hB15 : Below w.heap.size w w15 := hB14.trans (hb15.mono hB14.size)
  obtain ⟨ra, rc, rfl⟩ := ho.form
  have HO := Held.mk ho
  clear ho hb15
  go_wp2_with ((refine wpList_bytes_str rfl _ 23 9 rfl rfl HO.out.sl 5 Try.underlying9 Try.underlying23 Try.underlying5 ?_))
  refine (wtext_any _ _ [] _ (Sl.zero _ _) ⟨by decide⟩).mono ?_
  rintro e w16 ⟨r, rfl, ho, hb16⟩
  rw [show ([] ++ lenE (ByteArray.mk #[97, 98]).data.toList) = [2, 97, 98] from by decide] at ho
  have hB16 : Below w.heap.size w w16 := hB15.trans (hb16.mono hB15.size)
  obtain ⟨ra, rc, rfl⟩ := ho.form
  have HO := Held.mk ho
  clear ho hb16
  go_wp2_with ((refine wpList_bytes_str rfl _ 23 9 rfl rfl HO.out.sl 5 Try.underlying9 Try.underlying23 Try.underlying5 ?_))
  go_ret
  exact ⟨rfl, hB16⟩
end Go.Proofs.Ytlmegcbiijkmaaa.wireKnown
