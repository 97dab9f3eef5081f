/- The law VecBack returns true, whatever the input. No condition. -/
import Derived.Test.YtlmegcbiijkmaaaVecLaws
import Derived.Test.YtlmegcbiijkmaaaVecD
import Derived.Deep.RegionHeld3
import Derived.Test.YtlmegcbiijkmaaaRows
import Derived.ProofKit
import Derived.OpenShut
namespace Go.Proofs.Ytlmegcbiijkmaaa.vecBack
open Go.ChangeShapes Go.WideShapes Go.ChangeAt Go.RowKit Go.Bx Go.Proofs.Ytlmegcbiijkmaaa

def encs (a : List Int) : List UInt8 := a.flatMap fun x => enc x.toNat
theorem one_num {x : Int} (r : List UInt8) (bad : Bool) (h0 : 0 ≤ x) (h1 : x ≤ most) : numV most (enc x.toNat ++ r) = x ∧ numL most (enc x.toNat ++ r) = r ∧ numB most (enc x.toNat ++ r) bad = bad := by
  simp only [most] at h1
  have hd := dec_enc x.toNat most.toNat r (by omega)
  rw [if_pos (by simp only [most]; omega)] at hd
  obtain ⟨q1, q2, q3⟩ := some_num bad hd
  exact ⟨by rw [q1]; omega, q2, q3⟩
theorem good_at {a : List Int} (h : goodB a = true) {k : Nat} : 0 ≤ a.getD k 0 ∧ a.getD k 0 ≤ most := getD_le h k
theorem encs_drop {a : List Int} {k : Nat} (h : k < a.length) : encs (a.drop k) = enc (a.getD k 0).toNat ++ encs (a.drop (k + 1)) := by
  have e2 : a.getD k 0 = a[k] := by simp [h]
  rw [e2, encs, List.drop_eq_getElem_cons h, List.flatMap_cons]; rfl
theorem rl_encs {a : List Int} (h : goodB a = true) : ∀ k, k ≤ a.length → rl (encs a) k = encs (a.drop k)
  | 0, _ => rfl
  | k + 1, hk => by
    have hg := getD_le h k
    rw [rl, rl_encs h k (by omega), encs_drop (by omega)]
    exact (one_num _ false hg.1 hg.2).2.1
theorem rb_encs {a : List Int} (h : goodB a = true) : ∀ k, k ≤ a.length → rb (encs a) false k = false
  | 0, _ => rfl
  | k + 1, hk => by
    have hg := getD_le h k
    rw [rb, rb_encs h k (by omega), rl_encs h k (by omega), encs_drop (by omega)]
    exact (one_num _ false hg.1 hg.2).2.2
theorem get_encs {a : List Int} (ha : a.length = 8) (h : goodB a = true) : getV (encs a) false = a := by
  rw [getV, rb_encs h 8 (by omega)]
  refine ext8 (getW_length _ _) ha fun i hi => ?_
  have hg := getD_le h i
  have e : (getW (encs a) 8).getD i 0 = numV most (rl (encs a) i) := by simp [getW, hi]
  rw [if_neg (by decide), e, rl_encs h i (by omega), encs_drop (by omega)]
  exact (one_num _ false hg.1 hg.2).1

theorem eight {a : List Int} (h : a.length = 8) : ∃ x0 x1 x2 x3 x4 x5 x6 x7, a = [x0, x1, x2, x3, x4, x5, x6, x7] := by
  match a, h with
  | [x0, x1, x2, x3, x4, x5, x6, x7], _ => exact ⟨_, _, _, _, _, _, _, _, rfl⟩
abbrev Cells8 (g : Nat) (x0 x1 x2 x3 x4 x5 x6 x7 : Int) (w : World) : Prop := w.cell? ⟨g, 0, none⟩ = some (.int .i64 x0) ∧ w.cell? ⟨g, 1, none⟩ = some (.int .i64 x1) ∧ w.cell? ⟨g, 2, none⟩ = some (.int .i64 x2) ∧ w.cell? ⟨g, 3, none⟩ = some (.int .i64 x3) ∧
  w.cell? ⟨g, 4, none⟩ = some (.int .i64 x4) ∧ w.cell? ⟨g, 5, none⟩ = some (.int .i64 x5) ∧ w.cell? ⟨g, 6, none⟩ = some (.int .i64 x6) ∧ w.cell? ⟨g, 7, none⟩ = some (.int .i64 x7)
theorem cells8 {w : World} {g : Nat} {x0 x1 x2 x3 x4 x5 x6 x7 : Int} (h : w.rangeAt g 0 ([x0, x1, x2, x3, x4, x5, x6, x7].map (Value.int .i64))) : Cells8 g x0 x1 x2 x3 x4 x5 x6 x7 w :=
  ⟨h 0 _ rfl, h 1 _ rfl, h 2 _ rfl, h 3 _ rfl, h 4 _ rfl, h 5 _ rfl, h 6 _ rfl, h 7 _ rfl⟩
set_option maxRecDepth 100000 in
set_option maxHeartbeats 2000000 in
theorem walk (a : List Int) (ha : a.length = 8) (ia : ∀ x ∈ a, I64 x) (w : World) :
    Calls Try.prog 8 #[vv a] w fun e w' => e = .returned (.bool true) ∧ Below w.heap.size w w' := by
  have H1 := Held.mk ha
  have H2 := Held.mk ia
  have HI := Held.mk (show (Try.prog.info? 39).map (·.size) = some (a.map (Value.int .i64)).length by rw [List.length_map, ha]; kernel_rfl)
  have EA := Held.mk (eqV a a ha ha)
  rw [beq_self_eq_true] at EA
  have CG := Held.mk (fun w => good_any a ha w)
  have key : ∃ W, Held (W = w.alloc (.cells (a.map (Value.int .i64)).toArray 39)) ∧ Held (W.heap[w.heap.size]? = some (.cells (a.map (Value.int .i64)).toArray 39 (0, 0))) ∧ Held (Below w.heap.size w W) ∧ w.heap.size + 1 ≤ W.heap.size :=
    ⟨_, ⟨rfl⟩, ⟨laid0 _ _⟩, ⟨(Below.refl _ _).alloc (Nat.le_refl _) _⟩, by simp⟩
  obtain ⟨W, hW, HA, HL, hs⟩ := key
  obtain ⟨bg, hbg⟩ : ∃ b, goodB a = b := ⟨_, rfl⟩
  rw [hbg] at CG
  have HBG := Held.mk hbg
  clear ha ia hbg
  cases bg
  all_goals
    go_enter Try.func8, Try.ntmps8
    go_wp2_with (first
      | rw [← hW.out]
      | (go_at_call 29; refine (awake15_any _).mono ?_; rintro e w1 ⟨rfl, hb1⟩; have hz1 := hb1.size)
      | (go_at_call 34; refine (CG.out _).mono ?_; rintro e w2 ⟨rfl, hb2⟩; have hz2 := hb2.size)
      | (refine wpList_loadB rfl rfl ((hb1.block _ (by omega)).trans HA.out) rfl Try.underlying39 rfl HI.out ?_)
      | (refine wpList_loadB rfl rfl ((hb2.block _ (by omega)).trans ((hb1.block _ (by omega)).trans HA.out)) rfl Try.underlying39 rfl HI.out ?_)
      | (go_at_call 36; refine (put_any _ [] a H1.out H2.out _ (Sl.zero _ _) ⟨by decide⟩).mono ?_; rintro e w3 ⟨r3, rfl, ho3, hb3⟩; obtain ⟨ra, rc, rfl⟩ := ho3.form; have HO3 := Held.mk ho3; have hz3 := hb3.size; clear ho3)
      | (go_at_call 16; refine (read_any _ _ _ HO3.out.sl ⟨Nat.le_trans (putL_len [] a H2.out) (by rw [H1.out]; decide)⟩).mono ?_; rintro e w4 ⟨g, q, rfl, hr4, hg4, hq4, hb4⟩; have HR4 := Held.mk hr4; have hz4 := hb4.size; clear hr4))
  · go_ret
    exact ⟨rfl, (HL.out.trans (hb1.mono HL.out.size)).trans (hb2.mono (Nat.le_trans HL.out.size hz1))⟩
  · have e0 : putL [] a = encs a := rfl
    rw [e0] at HR4
    have hB4 : Below w.heap.size w w4 := (((HL.out.trans (hb1.mono HL.out.size)).trans (hb2.mono (Nat.le_trans HL.out.size hz1))).trans (hb3.mono (by omega))).trans (hb4.mono (by omega))
    have g4 : w4.heap[w.heap.size]? = some (.cells (a.map (Value.int .i64)).toArray 39 (0, 0)) := (hb4.block _ (by omega)).trans ((hb3.block _ (by omega)).trans ((hb2.block _ (by omega)).trans ((hb1.block _ (by omega)).trans HA.out)))
    have R4 : w4.rangeAt w.heap.size 0 (a.map (Value.int .i64)) := by have := rangeAt_of g4; simpa using this
    obtain ⟨x0, x1, x2, x3, x4, x5, x6, x7, rfl⟩ := eight H1.out
    have hEq : ∀ w, (Op.equalIn 10000 39 (.agg #[.int .i64 x0, .int .i64 x1, .int .i64 x2, .int .i64 x3, .int .i64 x4, .int .i64 x5, .int .i64 x6, .int .i64 x7]) (.agg #[.int .i64 x0, .int .i64 x1, .int .i64 x2, .int .i64 x3, .int .i64 x4, .int .i64 x5, .int .i64 x6, .int .i64 x7])).run Try.prog w = .ok true w := fun w => by
      obtain ⟨i0, hi, hz0, hz1, hz2⟩ := info_parts (show (Try.prog.info? 2).map (fun i => (i.zero, i.size, i.bytes)) = some (some (.int .i64 0), 1, 8) by kernel_rfl)
      have := run_eqInts (P := Try.prog) w 39 2 8 .i64 Try.underlying39 Try.underlying2 hi hz1 [x0, x1, x2, x3, x4, x5, x6, x7] [x0, x1, x2, x3, x4, x5, x6, x7] rfl rfl
      rw [beq_self_eq_true] at this
      exact this
    have R4d : w4.drew.rangeAt w.heap.size 0 ([x0, x1, x2, x3, x4, x5, x6, x7].map (Value.int .i64)) := (Fr.drew (fun _ => False) w4).range id R4
    have RR := Held.mk R4d
    have RD := Held.mk (cells8 R4d)
    clear R4d
    have hg : ¬ (w.heap.size = g) := by omega
    have HB4 := Held.mk hB4
    clear R4 g4 hb1 hb2 hb3 hb4
    go_region_held3 (Cells8 w.heap.size x0 x1 x2 x3 x4 x5 x6 x7) (first | exact RD.out | exact RE.out)
      (first
        | (go_at_call 37; refine (get_any g q _ _ _ (HR4.out.fr (Fr.drew (fun _ => False) _) id (fun _ => id))).mono ?_; rintro e w5 ⟨he, hr5, hf5⟩; rw [get_encs H1.out HBG.out] at he; change e = .returned (.agg #[.int .i64 x0, .int .i64 x1, .int .i64 x2, .int .i64 x3, .int .i64 x4, .int .i64 x5, .int .i64 x6, .int .i64 x7]) at he; subst he; rw [rl_encs HBG.out 8 (by rw [H1.out]; exact Nat.le_refl _), rb_encs HBG.out 8 (by rw [H1.out]; exact Nat.le_refl _), List.drop_of_length_le (by rw [H1.out]; exact Nat.le_refl _)] at hr5; have HR5 := Held.mk hr5; have RE := Held.mk (cells8 (hf5.range hg RR.out)); have HF5 := Held.mk hf5; clear hr5 hf5)
        | (go_at_call 20; refine (rend_any g q _ _ _ HR5.out).mono ?_; rintro e w6 ⟨rfl, rfl⟩))
    all_goals
      go_wp2
      go_ret
      refine ⟨rfl, ?_⟩
      exact HB4.out.trans (((Fr.drew (fun k => k = g) w4).trans HF5.out).below HB4.out.size (fun k hk e => by omega))
end Go.Proofs.Ytlmegcbiijkmaaa.vecBack
