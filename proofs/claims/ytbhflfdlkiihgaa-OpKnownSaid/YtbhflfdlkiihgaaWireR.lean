/- Walks of the document's own writing of numbers, bytes, words. Conditions: lengths within memory. -/
import Derived.Test.YtbhflfdlkiihgaaWire2
namespace Go.Proofs.Ytbhflfdlkiihgaa
open Go.RowKit Go.Bx

theorem add_more (x : Int) (h0 : 0 ≤ x) : Value.int .u8 (x % 128 + 128) = bv (UInt8.ofNat (x.toNat % 128 + 128)) := by
  rw [bv_ofNat _ (by omega)]
  congr 1; omega
set_option maxHeartbeats 1000000 in
theorem rnum_core (b : Value) (l L : List UInt8) (v : Int) (w : World) (hL : Held (l ++ enc v.toNat = L)) (hLn : Fits (L.length + 1)) (h : Sl w 1 b l.length (bvs l)) (hn : Fits l.length) (hv : I64 v) :
    Calls Try.prog 38 #[b, .int .i64 v] w fun e w' => ∃ r, e = .returned r ∧ Own w' w.heap.size 1 r L.length (bvs L) ∧ Below w.heap.size w w' := by
  obtain ⟨i0, hi, hz0, hz1, hz2⟩ := info_parts infoB
  obtain ⟨xa, xc, rfl⟩ := h.form
  have HS := Held.mk h
  clear h
  go_enter Try.func38, Try.ntmps38
  go_wp2_with (at_builtin; go_must (refine wpList_append rfl _ _ 29 29 rfl (Own.zero _ w.heap.size 1 _ _) rfl 5 i0 (.int .u8 0) 1 Try.underlying29 hi hz0 hz1 hz2 rfl (by decide) rfl ((HS.out.grow ?b).src (bvs_one _) Try.underlying29) ?c1 ?c2 ?c3 ?_); exact (Below.refl _ _).alloc (Nat.le_refl _) _; rw [Nat.zero_add]; exact hn.max; rw [Nat.zero_add]; exact hn.mul; simp; intro v' w1 hown1 hfr hob)
  all_goals
    have hb1 : Below w.heap.size w w1 := ((Below.refl _ _).alloc (Nat.le_refl _) _).trans (hfr.own (by simp))
    rw [Nat.zero_add, List.nil_append] at hown1
    go_loopw [1, 5] (fun x out wr => NumRel w L x out wr) (fun x _ _ => (intOf x).toNat)
    case atStart =>
      refine ⟨⟨_, l, rfl, by omega, ?_, hown1, ?_, hb1⟩⟩
      · first | exact hv | exact ⟨by omega, by omega⟩
      · first | exact hL.out | (rw [← hL.out, show v.toNat = (0 : Int).toNat from by omega])
    case round =>
      obtain ⟨u, pre, rfl, hu0, hu, hown, hpre, hb⟩ := hrel.ex
      have HO := Held.mk hown
      have HP := Held.mk hpre
      have hpl : pre.length + 1 ≤ L.length + 1 := by have := congrArg List.length hpre; simp at this; omega
      clear hown hpre hrel hown1 hb1 hfr hob
      by_cases h128 : u < 128
      · go_wp2_with (at_builtin; go_must (refine wpList_append rfl _ _ 29 29 rfl (HO.out.grow ?_) rfl 5 i0 (.int .u8 0) 1 Try.underlying29 hi hz0 hz1 hz2 rfl (by decide) rfl ((Sl.one _ _ _).src ?_ Try.underlying29) ?_ ?_ ?_ ?_); exact (Below.refl _ _).alloc (Nat.le_refl _) _; simp [Value.oneCell']; exact (hLn.le hpl).max; exact (hLn.le hpl).mul; exact Nat.le_trans hb.size (by simp); intro v' w2 hown2 hfr hob)
        go_ret
        have e : pre ++ [UInt8.ofNat u.toNat] = L := by rw [← enc_small _ (show u.toNat < 128 by omega)]; exact HP.out
        have el : pre.length + 1 = L.length := by rw [← e]; simp
        rw [bv_ofInt u hu0 (by omega), bvs_snoc, e, el] at hown2
        exact ⟨_, rfl, hown2, (hb.alloc hb.size _).trans (hfr.own (Nat.le_trans hb.size (by simp)))⟩
      · have htd : u.tdiv 128 = u / 128 := Int.tdiv_eq_ediv_of_nonneg hu0
        have hu1 : u ≤ 9223372036854775807 := hu.hi
        go_wp2_with (at_builtin; go_must (refine wpList_append rfl _ _ 29 29 rfl (HO.out.grow ?_) rfl 5 i0 (.int .u8 0) 1 Try.underlying29 hi hz0 hz1 hz2 rfl (by decide) rfl ((Sl.one _ _ _).src ?_ Try.underlying29) ?_ ?_ ?_ ?_); exact (Below.refl _ _).alloc (Nat.le_refl _) _; simp [Value.oneCell']; exact (hLn.le hpl).max; exact (hLn.le hpl).mul; exact Nat.le_trans hb.size (by simp); intro v' w2 hown2 hfr hob)
        go_roundw
        case rel =>
          rw [add_more u hu0, bvs_snoc] at hown2
          refine ⟨⟨_, pre ++ [UInt8.ofNat (u.toNat % 128 + 128)], rfl, by omega, ⟨by have := hu.lo; omega, by have := hu.hi; omega⟩, ?_, ?_, ?_⟩⟩
          · rw [List.length_append]; exact hown2
          · rw [List.append_assoc, List.singleton_append, show (u / 128).toNat = u.toNat / 128 from by omega, ← enc_big _ (by omega) (by have := hu.hi; omega)]; exact HP.out
          · exact (hb.alloc hb.size _).trans (hfr.own (Nat.le_trans hb.size (by simp)))
        case measure => simp [intOf]; omega
/-- The document's Num. -/
theorem r11num_any (b : Value) (l : List UInt8) (v : Int) (w : World) (h : Sl w 1 b l.length (bvs l)) (hn : Fits (l.length + 16)) (hv : I64 v) :
    Calls Try.prog 38 #[b, .int .i64 v] w fun e w' => ∃ r, e = .returned r ∧ Own w' w.heap.size 1 r (l ++ enc v.toNat).length (bvs (l ++ enc v.toNat)) ∧ Below w.heap.size w w' :=
  rnum_core b l _ v w ⟨rfl⟩ (hn.le (by have := enc_len v.toNat (by have := hv.hi; omega); simp; omega)) h (hn.le (by omega)) hv
set_option maxHeartbeats 400000 in
/-- The document's Bytes. -/
theorem r11bytes_any (b x : Value) (l lx : List UInt8) (w : World) (h : Sl w 1 b l.length (bvs l)) (hx : Sl w 1 x lx.length (bvs lx)) (hn : Fits (l.length + lx.length + 16)) :
    Calls Try.prog 39 #[b, x] w fun e w' => ∃ r, e = .returned r ∧ Own w' w.heap.size 1 r (l ++ lenE lx).length (bvs (l ++ lenE lx)) ∧ Below w.heap.size w w' := by
  obtain ⟨i0, hi, hz0, hz1, hz2⟩ := info_parts infoB
  obtain ⟨xa, xc, rfl⟩ := hx.form
  have HS := Held.mk h
  have HX := Held.mk hx
  have hle : (enc lx.length).length ≤ 9 := enc_len _ (by have := hn.ok; omega)
  have HL := Held.mk hle
  clear h hx hle
  go_enter Try.func39, Try.ntmps39
  go_wp2_with (first | (go_at_call 38; refine (r11num_any _ l _ _ HS.out (hn.le (by omega)) ⟨by omega, by have := hn.ok; omega⟩).mono ?_; rintro e w1 ⟨r, rfl, hown1, hb1⟩; rw [Int.toNat_natCast] at hown1; have HO := Held.mk hown1; clear hown1) | (at_builtin; go_must (refine wpList_append rfl _ _ 29 29 rfl (HO.out) rfl 5 i0 (.int .u8 0) 1 Try.underlying29 hi hz0 hz1 hz2 rfl (by decide) rfl ((HX.out.grow hb1).src (bvs_one _) Try.underlying29) ?_ ?_ ?_ ?_); exact (hn.le (by rw [List.length_append]; have := HL.out; omega)).max; exact (hn.le (by rw [List.length_append]; have := HL.out; omega)).mul; exact hb1.size; intro v' w2 hown2 hfr hob))
  go_ret
  refine ⟨_, rfl, ?_, hb1.trans (hfr.own hb1.size)⟩
  rw [← bvs_append, List.append_assoc] at hown2
  rw [show (l ++ lenE lx).length = (l ++ enc lx.length).length + lx.length from by simp [lenE]; omega]
  exact hown2
end Go.Proofs.Ytbhflfdlkiihgaa
