/- The law VecKnown returns true. No condition. -/
import Derived.Test.YtlmegcbiijkmaaaVecLaws
import Derived.Test.YtlmegcbiijkmaaaVecD
import Derived.Test.YtlmegcbiijkmaaaRows
import Derived.ProofKit
import Derived.OpenShut
namespace Go.Proofs.Ytlmegcbiijkmaaa.vecKnown
open Go.ChangeShapes Go.WideShapes Go.ChangeAt Go.RowKit Go.Bx Go.Proofs.Ytlmegcbiijkmaaa

abbrev L7 : List UInt8 := [1, 2, 3, 4, 5, 6, 7]
theorem get7 : getV L7 false = [0, 0, 0, 0, 0, 0, 0, 0] := by decide
theorem bad7 : rb L7 false 8 = true := by decide
theorem put9 : putL [9] [1, 0, 0, 0, 0, 0, 0, 0] = [9, 1, 0, 0, 0, 0, 0, 0, 0] := by decide
abbrev v9 (a b : Int) : Value := .agg #[.int .i64 a, .int .i64 b, .int .i64 0, .int .i64 0, .int .i64 0, .int .i64 0, .int .i64 0, .int .i64 0]
theorem good_is {a b : Int} {r : Bool} (h : goodB [a, b, 0, 0, 0, 0, 0, 0] = r) (w : World) : Calls Try.prog 34 #[v9 a b] w fun e w' => e = .returned (.bool r) ∧ Below w.heap.size w w' := h ▸ good_any [a, b, 0, 0, 0, 0, 0, 0] rfl w
theorem has_is {a b d n : Int} {r : Bool} (h : hasB [a, b, 0, 0, 0, 0, 0, 0] d n = r) (w : World) : Calls Try.prog 33 #[v9 a b, .agg #[.int .i64 d, .int .i64 n]] w fun e w' => e = .returned (.bool r) ∧ Below w.heap.size w w' := h ▸ has_any [a, b, 0, 0, 0, 0, 0, 0] d n rfl w
set_option maxRecDepth 100000 in
set_option maxHeartbeats 4000000 in
theorem walk (w : World) : Calls Try.prog 9 #[] w fun e w' => e = .returned (.bool true) ∧ Below w.heap.size w w' := by
  have EZ := Held.mk (show EqQ Try.prog 39 (v9 0 0) (v9 0 0) true from eqV [0, 0, 0, 0, 0, 0, 0, 0] [0, 0, 0, 0, 0, 0, 0, 0] rfl rfl)
  have HI0 := Held.mk (show (Try.prog.info? 39).map (·.size) = some ([(0 : Int), 0, 0, 0, 0, 0, 0, 0].map (Value.int .i64)).length by kernel_rfl)
  have hone0 : ∀ u ∈ [(0 : Int), 0, 0, 0, 0, 0, 0, 0].map (Value.int .i64), u.oneCell' = true := by intro u hu; obtain ⟨_, _, rfl⟩ := List.mem_map.1 hu; rfl
  have O0 := Held.mk hone0
  clear hone0
  go_enter Try.func9, Try.ntmps9
  go_wp2_with (go_at_call 29; refine (awake15_any _).mono ?_; rintro e w1 ⟨rfl, hb1⟩)
  refine (read_any _ L7 _ (Sl.lit _ L7 _ (by decide)) ⟨by decide⟩).mono ?_
  rintro e w2 ⟨g, q, rfl, hr2, hg2, hq2, hb2⟩
  have hz1 := hb1.size
  have hz2 := hb2.size
  have HB2 := Held.mk (hb1.trans ((((Below.refl _ _).alloc (Nat.le_refl _) _).trans (hb2.mono (by simp))).mono hz1))
  have HR2 := Held.mk hr2
  have hlt2 := hr2.lt
  clear hr2 hb2
  go_wp2_with fail
  refine (get_any g q L7 false _ HR2.out).mono ?_
  rintro e w3 ⟨he, hr3, hf3⟩
  rw [get7] at he
  rw [bad7] at hr3
  change e = .returned (v9 0 0) at he
  subst he
  have hz3 := hf3.size
  rw [World.size_alloc] at hg2 hq2 hz2
  have HB3 := Held.mk (HB2.out.trans (hf3.below HB2.out.size (fun i hi e => by omega)))
  have HR3 := Held.mk hr3
  clear hr3 hf3
  go_wp2_with (refine wpList_storeB rfl rfl rfl (laid0 w3 _) (cs := [(0 : Int), 0, 0, 0, 0, 0, 0, 0].map (Value.int .i64)) rfl rfl rfl HI0.out O0.out ?_; intro w4 hrg4 ht4 hf4 hs4)
  have HR4 := Held.mk (HR3.out.fr ((Fr.alloc (fun _ => False) w3 (.cells #[.int .i64 0, .int .i64 0, .int .i64 0, .int .i64 0, .int .i64 0, .int .i64 0, .int .i64 0, .int .i64 0] 39)).trans' hf4 (fun i hi e => by omega)) (fun h => h) (fun _ h => h))
  have hB4 : Below w.heap.size w w4 := (HB3.out.alloc HB3.out.size _).trans (hf4.below (by have := HB3.out.size; simp; omega) (fun i hi e => by omega))
  have K4 := Held.mk (Below.refl w4.heap.size w4)
  refine (good_is (a := 1099511627776) (b := 0) (r := true) (by decide) _).mono ?_
  rintro e w5 ⟨rfl, hb5⟩
  have K5 := Held.mk (K4.out.trans (hb5.mono K4.out.size))
  clear hb5 K4
  go_wp2_with fail
  refine (good_is (a := 1099511627777) (b := 0) (r := false) (by decide) _).mono ?_
  rintro e w6 ⟨rfl, hb6⟩
  have K6 := Held.mk (K5.out.trans (hb6.mono K5.out.size))
  clear hb6 K5
  go_wp2_with fail
  refine (good_is (a := -1) (b := 0) (r := false) (by decide) _).mono ?_
  rintro e w7 ⟨rfl, hb7⟩
  have K7 := Held.mk (K6.out.trans (hb7.mono K6.out.size))
  clear hb7 K6
  go_wp2_with fail
  refine (sum_any [-1, 0, 0, 0, 0, 0, 0, 0] rfl _).mono ?_
  rintro e w8 ⟨rfl, hb8⟩
  rw [show sumL [-1, 0, 0, 0, 0, 0, 0, 0] = -1 from by decide]
  have K8 := Held.mk (K7.out.trans (hb8.mono K7.out.size))
  clear hb8 K7
  go_wp2_with fail
  refine (has_is (a := 0) (b := 3) (d := 1) (n := 3) (r := true) (by decide) _).mono ?_
  rintro e w9 ⟨rfl, hb9⟩
  have K9 := Held.mk (K8.out.trans (hb9.mono K8.out.size))
  clear hb9 K8
  go_wp2_with fail
  refine (has_is (a := 0) (b := 3) (d := 1) (n := 4) (r := false) (by decide) _).mono ?_
  rintro e w10 ⟨rfl, hb10⟩
  have K10 := Held.mk (K9.out.trans (hb10.mono K9.out.size))
  clear hb10 K9
  go_wp2_with fail
  refine (has_is (a := 0) (b := 3) (d := 1) (n := 0) (r := false) (by decide) _).mono ?_
  rintro e w11 ⟨rfl, hb11⟩
  have K11 := Held.mk (K10.out.trans (hb11.mono K10.out.size))
  clear hb11 K10
  go_wp2_with fail
  refine (has_is (a := 9) (b := 0) (d := 8) (n := 1) (r := false) (by decide) _).mono ?_
  rintro e w12 ⟨rfl, hb12⟩
  have K12 := Held.mk (K11.out.trans (hb12.mono K11.out.size))
  clear hb12 K11
  go_wp2_with fail
  refine (has_is (a := 9) (b := 0) (d := -1) (n := 1) (r := false) (by decide) _).mono ?_
  rintro e w13 ⟨rfl, hb13⟩
  have K13 := Held.mk (K12.out.trans (hb13.mono K12.out.size))
  clear hb13 K12
  have R13 := Held.mk ((Fr.ofBelow K13.out (fun _ => False)).range id hrg4)
  have HR13 := Held.mk (HR4.out.grow K13.out)
  go_wp2_with (first
    | (refine wpList_wanted rfl fun _ hK => wp_load_mid _ _ rfl _ 0 rfl _ _ R13.out Try.underlying39 rfl HI0.out (hK _ _ ?_))
    | (refine wpList_eqB rfl rfl EZ.out rfl rfl ?_)
    | (go_at_call 18; refine (rbad_any g q _ _ _ HR13.out).mono ?_; rintro e wx ⟨rfl, rfl⟩))
  have hz4 := HB3.out.size
  have hz5 := K13.out.size
  have hb13 : Below w.heap.size w w13 := hB4.trans (K13.out.mono hB4.size)
  have HB13 := Held.mk hb13
  have h64 : ∀ x ∈ [(1 : Int), 0, 0, 0, 0, 0, 0, 0], I64 x := by
    intro x hx
    simp only [List.mem_cons, List.not_mem_nil, or_false] at hx
    exact ⟨by omega, by omega⟩
  refine (put_any _ [9] [1, 0, 0, 0, 0, 0, 0, 0] rfl h64 _ (Sl.lit _ [9] _ (by decide)) ⟨by decide⟩).mono ?_
  rintro e w14 ⟨r, rfl, ho, hb14⟩
  rw [put9] at ho
  obtain ⟨ra, rc, rfl⟩ := ho.form
  have HO := Held.mk ho
  have HB14 := Held.mk (HB13.out.trans ((((Below.refl _ _).alloc (Nat.le_refl _) _).trans (hb14.mono (by simp))).mono HB13.out.size))
  clear ho hb14 hb13 h64 hB4
  go_wp2_with ((refine wpList_bytes_str rfl _ 23 9 rfl rfl HO.out.sl 5 Try.underlying9 Try.underlying23 Try.underlying5 ?_))
  go_ret
  exact ⟨rfl, HB14.out⟩
end Go.Proofs.Ytlmegcbiijkmaaa.vecKnown
