/- The laws of wire: each returns true. Conditions: none. -/
import Derived.Test.YtlmegcbiijkmaaaWire2
namespace Go.Proofs.Ytlmegcbiijkmaaa
open Go.RowKit Go.Bx

theorem num_nil (v : Int) (w : World) (hv : I64 v) :
    Calls Try.prog 15 #[.slice none 0 0, .int .i64 v] w fun e w' => ∃ r, e = .returned r ∧ Own w' w.heap.size 1 r (enc v.toNat).length (bvs (enc v.toNat)) ∧ Below w.heap.size w w' :=
  num_any _ [] v w (Sl.zero _ _) ⟨by decide⟩ hv
set_option maxHeartbeats 1000000 in
theorem awake11_any (w : World) : Calls Try.prog 14 #[] w fun e w' => e = .returned (.bool true) ∧ Below w.heap.size w w' := by
  go_enter Try.func14, Try.ntmps14
  go_wp2_with fail
  refine (num_nil _ _ ⟨by decide, by decide⟩).mono ?_
  rintro e w1 ⟨r, rfl, ho, hb1⟩
  rw [show enc (Int.toNat 300) = [172, 2] from by decide] at ho
  obtain ⟨ra, rc, rfl⟩ := ho.form
  have HO := Held.mk ho
  clear ho
  go_wp2_with fail
  refine (read_any _ [172, 2] _ HO.out.sl ⟨by decide⟩).mono ?_
  rintro e w2 ⟨g, q, rfl, hr2, hg2, hq2, hb2⟩
  have HO2 := Held.mk (HO.out.grow hb2)
  have HR := Held.mk hr2
  clear hr2
  go_wp2_with (first | (refine wpList_bytes_str rfl _ 23 9 rfl rfl HO2.out.sl 5 Try.underlying9 Try.underlying23 Try.underlying5 ?_))
  refine (rnum_any g q _ _ 300 _ HR.out).mono ?_
  rintro e w3 ⟨he, hr3, hf3⟩
  rw [show numV 300 [172, 2] = 300 from by decide] at he
  rw [show numL 300 [172, 2] = [] from by decide, show numB 300 [172, 2] false = false from by decide] at hr3
  subst he
  have HR3 := Held.mk hr3
  clear hr3
  go_wp2_with (first | (go_at_call 20; refine (rend_any g q _ _ _ HR3.out).mono ?_; rintro e w4 ⟨rfl, rfl⟩) | (go_at_call 18; refine (rbad_any g q _ _ _ HR3.out).mono ?_; rintro e w4 ⟨rfl, rfl⟩))
  go_ret
  exact ⟨rfl, hb1.trans ((hb2.mono hb1.size).trans (hf3.below (Nat.le_trans hb1.size hb2.size) (fun k hk e => by have := hb1.size; omega)))⟩
end Go.Proofs.Ytlmegcbiijkmaaa
