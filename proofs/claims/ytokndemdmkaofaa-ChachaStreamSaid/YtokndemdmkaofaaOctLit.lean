/- Walks of octet: a number written, the lowest byte first. Conditions: lengths within memory. -/
import Derived.Test.YtokndemdmkaofaaOct
namespace Go.Proofs.Ytokndemdmkaofaa
open Go.RowKit Go.Bx

theorem shr_byte (v : Int) (v0 : 0 ≤ v) (k : Nat) : Value.int .u8 (v / 2 ^ (8 * k) % 256) = bv (UInt8.ofNat (v.toNat / 2 ^ (8 * k) % 256)) := by
  obtain ⟨u, rfl⟩ : ∃ u : Nat, v = (u : Int) := ⟨v.toNat, by omega⟩
  rw [Int.toNat_natCast, bv_ofNat _ (by omega)]
  congr 1
/-- How many bytes of a number are written. -/
def held8 (n : Int) : Nat := (max (min n 8) 0).toNat
structure LitRel (w : World) (l : List UInt8) (v m : Nat) (out i : Value) (wr : World) : Prop where
  ex : ∃ (k : Nat), i = .int .i64 k ∧ k ≤ m ∧ Own wr w.heap.size 1 out (l ++ litB v k).length (bvs (l ++ litB v k)) ∧ Below w.heap.size w wr
set_option maxHeartbeats 400000 in
/-- octet.Little: what is there, and the number's lowest bytes, the lowest first. -/
theorem little_any (b : Value) (l : List UInt8) (v : Int) (v0 : 0 ≤ v) (v1 : v < 18446744073709551616) (n : Int) (w : World) (h : Sl w 1 b l.length (bvs l)) (hn : Fits (l.length + 8)) :
    Calls Try.prog 39 #[b, .int .u64 v, .int .i64 n] w fun e w' => ∃ r, e = .returned r ∧ Own w' w.heap.size 1 r (l ++ litB v.toNat (held8 n)).length (bvs (l ++ litB v.toNat (held8 n))) ∧ Below w.heap.size w w' := by
  obtain ⟨i0, hi, hz0, hz1, hz2⟩ := info_parts infoB
  have HS := Held.mk h
  have HV : Held (0 ≤ v ∧ v < 18446744073709551616) := ⟨v0, v1⟩
  have hnl : Fits l.length := hn.le (by omega)
  clear h
  go_enter Try.func39, Try.ntmps39
  go_wp2_with (go_at_call 56; refine (sclone_any _ _ l _ HS.out hnl).mono ?_; rintro e w1 ⟨r, rfl, hown1, hb1⟩)
  all_goals
    go_loopw [7, 14] (fun out i wr => LitRel w l v.toNat (held8 n) out i wr) (fun _ i _ => 8 - (intOf i).toNat)
    case atStart =>
      refine ⟨⟨0, rfl, by omega, ?_, hb1⟩⟩
      rw [show litB v.toNat 0 = [] from rfl, List.append_nil]; exact hown1
    case round =>
      obtain ⟨k, rfl, hk, hown, hb⟩ := hrel.ex
      have HO := Held.mk hown
      clear hown hrel hown1 hb1
      have hk8 : held8 n ≤ 8 := by unfold held8; omega
      by_cases hlt : k < held8 n
      · have hpl : (l ++ litB v.toNat k).length + 1 ≤ l.length + 8 := by rw [List.length_append, litB_len]; omega
        have hcond : (k : Int) < (max (min n 8) 0) := by unfold held8 at hlt; omega
        go_wp2_with (at_builtin; go_must (refine wpList_append rfl _ _ 28 28 rfl (HO.out.grow ?_) rfl 5 i0 (.int .u8 0) 1 Try.underlying28 hi hz0 hz1 hz2 rfl (by decide) rfl ((Sl.one _ _ _).src ?_ Try.underlying28) ?_ ?_ ?_ ?_); exact (Below.refl _ _).alloc (Nat.le_refl _) _; simp [Value.oneCell']; exact (hn.le hpl).max; exact (hn.le hpl).mul; exact Nat.le_trans hb.size (by simp); intro v' w2 hown2 hfr hob)
        all_goals
          go_roundw
          case rel =>
            rw [shr_byte v v0 k, bvs_snoc, List.append_assoc, ← litB_succ] at hown2
            rw [show (l ++ litB v.toNat k).length + 1 = (l ++ litB v.toNat (k + 1)).length from by simp only [List.length_append, litB_len]; omega] at hown2
            refine ⟨⟨k + 1, by push_cast; rfl, by omega, hown2, ?_⟩⟩
            exact (hb.alloc hb.size _).trans (hfr.own (Nat.le_trans hb.size (by simp)))
          case measure => simp [intOf]; omega
      · have hcond : (max (min n 8) 0) ≤ (k : Int) := by unfold held8 at hlt; omega
        have hkm : held8 n = k := by omega
        go_wp2
        go_ret
        rw [hkm]
        exact ⟨_, rfl, HO.out, hb⟩
end Go.Proofs.Ytokndemdmkaofaa
