/- Walks of the document's own writing of numbers, bytes, words. Conditions: lengths within memory. -/
import Derived.Test.YtlmegcbiijkmaaaWire2
namespace Go.Proofs.Ytlmegcbiijkmaaa
open Go.RowKit Go.Bx

theorem add_more (x : Int) (h0 : 0 ≤ x) : Value.int .u8 (x % 128 + 128) = bv (UInt8.ofNat (x.toNat % 128 + 128)) := by
  rw [bv_ofNat _ (by omega)]
  congr 1; omega
set_option maxHeartbeats 1000000 in
theorem rnum_core (b : Value) (l L : List UInt8) (v : Int) (w : World) (hL : Held (l ++ enc v.toNat = L)) (hLn : Fits (L.length + 1)) (h : Sl w 1 b l.length (bvs l)) (hn : Fits l.length) (hv : I64 v) :
    Calls Try.prog 27 #[b, .int .i64 v] w fun e w' => ∃ r, e = .returned r ∧ Own w' w.heap.size 1 r L.length (bvs L) ∧ Below w.heap.size w w' := by
  obtain ⟨i0, hi, hz0, hz1, hz2⟩ := info_parts infoB
  obtain ⟨xa, xc, rfl⟩ := h.form
  have HS := Held.mk h
  clear h
  go_enter Try.func27, Try.ntmps27
  go_wp2_with (at_builtin; go_must (refine wpList_append rfl _ _ 23 23 rfl (Own.zero _ w.heap.size 1 _ _) rfl 5 i0 (.int .u8 0) 1 Try.underlying23 hi hz0 hz1 hz2 rfl (by decide) rfl ((HS.out.grow ?b).src (bvs_one _) Try.underlying23) ?c1 ?c2 ?c3 ?_); exact (Below.refl _ _).alloc (Nat.le_refl _) _; rw [Nat.zero_add]; exact hn.max; rw [Nat.zero_add]; exact hn.mul; simp; intro v' w1 hown1 hfr hob)
  all_goals
    have hb1 : Below w.heap.size w w1 := ((Below.refl _ _).alloc (Nat.le_refl _) _).trans (hfr.own (by simp))
    rw [Nat.zero_add, List.nil_append] at hown1
    go_loopw [1, 5] (fun x out wr => NumRel w L x out wr) (fun x _ _ => (intOf x).toNat)
    case atStart =>
      refine ⟨⟨_, l, rfl, by omega, ?_, hown1, ?_, hb1⟩⟩
      · first | exact hv | exact ⟨by omega, by omega⟩
      · first | exact hL.out | (rw [← hL.out, show v.toNat = (0 : Int).toNat from by omega])
    case round =>
      obtain ⟨u, pre, rfl, hu0, hu, hown, hpre, hb⟩ := hrel.ex
      have HO := Held.mk hown
      have HP := Held.mk hpre
      have hpl : pre.length + 1 ≤ L.length + 1 := by have := congrArg List.length hpre; simp at this; omega
      clear hown hpre hrel hown1 hb1 hfr hob
      by_cases h128 : u < 128
      · go_wp2_with (at_builtin; go_must (refine wpList_append rfl _ _ 23 23 rfl (HO.out.grow ?_) rfl 5 i0 (.int .u8 0) 1 Try.underlying23 hi hz0 hz1 hz2 rfl (by decide) rfl ((Sl.one _ _ _).src ?_ Try.underlying23) ?_ ?_ ?_ ?_); exact (Below.refl _ _).alloc (Nat.le_refl _) _; simp [Value.oneCell']; exact (hLn.le hpl).max; exact (hLn.le hpl).mul; exact Nat.le_trans hb.size (by simp); intro v' w2 hown2 hfr hob)
        go_ret
        have e : pre ++ [UInt8.ofNat u.toNat] = L := by rw [← enc_small _ (show u.toNat < 128 by omega)]; exact HP.out
        have el : pre.length + 1 = L.length := by rw [← e]; simp
        rw [bv_ofInt u hu0 (by omega), bvs_snoc, e, el] at hown2
        exact ⟨_, rfl, hown2, (hb.alloc hb.size _).trans (hfr.own (Nat.le_trans hb.size (by simp)))⟩
      · have htd : u.tdiv 128 = u / 128 := Int.tdiv_eq_ediv_of_nonneg hu0
        have hu1 : u ≤ 9223372036854775807 := hu.hi
        go_wp2_with (at_builtin; go_must (refine wpList_append rfl _ _ 23 23 rfl (HO.out.grow ?_) rfl 5 i0 (.int .u8 0) 1 Try.underlying23 hi hz0 hz1 hz2 rfl (by decide) rfl ((Sl.one _ _ _).src ?_ Try.underlying23) ?_ ?_ ?_ ?_); exact (Below.refl _ _).alloc (Nat.le_refl _) _; simp [Value.oneCell']; exact (hLn.le hpl).max; exact (hLn.le hpl).mul; exact Nat.le_trans hb.size (by simp); intro v' w2 hown2 hfr hob)
        go_roundw
        case rel =>
          rw [add_more u hu0, bvs_snoc] at hown2
          refine ⟨⟨_, pre ++ [UInt8.ofNat (u.toNat % 128 + 128)], rfl, by omega, ⟨by have := hu.lo; omega, by have := hu.hi; omega⟩, ?_, ?_, ?_⟩⟩
          · rw [List.length_append]; exact hown2
          · rw [List.append_assoc, List.singleton_append, show (u / 128).toNat = u.toNat / 128 from by omega, ← enc_big _ (by omega) (by have := hu.hi; omega)]; exact HP.out
          · exact (hb.alloc hb.size _).trans (hfr.own (Nat.le_trans hb.size (by simp)))
        case measure => simp [intOf]; omega
/-- The document's Num. -/
theorem r11num_any (b : Value) (l : List UInt8) (v : Int) (w : World) (h : Sl w 1 b l.length (bvs l)) (hn : Fits (l.length + 16)) (hv : I64 v) :
    Calls Try.prog 27 #[b, .int .i64 v] w fun e w' => ∃ r, e = .returned r ∧ Own w' w.heap.size 1 r (l ++ enc v.toNat).length (bvs (l ++ enc v.toNat)) ∧ Below w.heap.size w w' :=
  rnum_core b l _ v w ⟨rfl⟩ (hn.le (by have := enc_len v.toNat (by have := hv.hi; omega); simp; omega)) h (hn.le (by omega)) hv
set_option maxHeartbeats 400000 in
/-- The document's Bytes. -/
theorem r11bytes_any (b x : Value) (l lx : List UInt8) (w : World) (h : Sl w 1 b l.length (bvs l)) (hx : Sl w 1 x lx.length (bvs lx)) (hn : Fits (l.length + lx.length + 16)) :
    Calls Try.prog 26 #[b, x] w fun e w' => ∃ r, e = .returned r ∧ Own w' w.heap.size 1 r (l ++ lenE lx).length (bvs (l ++ lenE lx)) ∧ Below w.heap.size w w' := by
  obtain ⟨i0, hi, hz0, hz1, hz2⟩ := info_parts infoB
  obtain ⟨xa, xc, rfl⟩ := hx.form
  have HS := Held.mk h
  have HX := Held.mk hx
  have hle : (enc lx.length).length ≤ 9 := enc_len _ (by have := hn.ok; omega)
  have HL := Held.mk hle
  clear h hx hle
  go_enter Try.func26, Try.ntmps26
  go_wp2_with (first | (go_at_call 27; refine (r11num_any _ l _ _ HS.out (hn.le (by omega)) ⟨by omega, by have := hn.ok; omega⟩).mono ?_; rintro e w1 ⟨r, rfl, hown1, hb1⟩; rw [Int.toNat_natCast] at hown1; have HO := Held.mk hown1; clear hown1) | (at_builtin; go_must (refine wpList_append rfl _ _ 23 23 rfl (HO.out) rfl 5 i0 (.int .u8 0) 1 Try.underlying23 hi hz0 hz1 hz2 rfl (by decide) rfl ((HX.out.grow hb1).src (bvs_one _) Try.underlying23) ?_ ?_ ?_ ?_); exact (hn.le (by rw [List.length_append]; have := HL.out; omega)).max; exact (hn.le (by rw [List.length_append]; have := HL.out; omega)).mul; exact hb1.size; intro v' w2 hown2 hfr hob))
  go_ret
  refine ⟨_, rfl, ?_, hb1.trans (hfr.own hb1.size)⟩
  rw [← bvs_append, List.append_assoc] at hown2
  rw [show (l ++ lenE lx).length = (l ++ enc lx.length).length + lx.length from by simp [lenE]; omega]
  exact hown2
set_option maxHeartbeats 1000000 in
/-- The document's Word. -/
theorem r11word_any (b : Value) (l k : List UInt8) (w : World) (h : Sl w 1 b l.length (bvs l)) (hk : k.length = 32) (hn : Fits (l.length + 64)) :
    Calls Try.prog 25 #[b, .agg (bvs k).toArray] w fun e w' => ∃ r, e = .returned r ∧ Own w' w.heap.size 1 r (l ++ k).length (bvs (l ++ k)) ∧ Below w.heap.size w w' := by
  obtain ⟨i0, hi, hz0, hz1, hz2⟩ := info_parts infoB
  obtain ⟨xa, xc, rfl⟩ := h.form
  have HS := Held.mk h
  have HK := Held.mk hk
  clear h hk
  go_enter Try.func25, Try.ntmps25
  go_wp2_with fail
  refine gen_world ?_
  intro W1 HW
  have hz : W1.heap.size = w.heap.size + 1 := by rw [HW.out]; simp
  have hbel : Below w.heap.size w W1 := by rw [HW.out]; exact (Below.refl _ _).alloc (Nat.le_refl _) _
  have hbox0 : W1.heap[w.heap.size]? = some (.cells (bvs k).toArray 31 (0, 0)) := by rw [HW.out]; exact heap_alloc_new _ _
  have hsz32 : (bvs k).toArray.size = 32 := by rw [List.size_toArray, bvs_length, HK.out]
  have hbx : Sl W1 1 (.slice (some ⟨w.heap.size, 0, none⟩) 32 32) 32 (bvs k) := by
    have := Sl.box hbox0 (by rw [hsz32]; decide)
    rwa [hsz32] at this
  have h1k : ∀ u ∈ bvs k, u.oneCell' = true := bvs_one k
  have hgrow : ∀ o : Obj, Below w.heap.size w (W1.drew.alloc o) := fun o => hbel.drew.alloc hbel.size o
  have hsrc1 : ∀ o : Obj, Src Try.prog 1 23 (.slice xa l.length xc) l.length (bvs l) (W1.drew.alloc o) := fun o => (HS.out.grow (hgrow o)).src (bvs_one _) Try.underlying23
  have hown0 : ∀ (W : World), Own W w.heap.size 1 (.slice (some ⟨W1.heap.size, 0, none⟩) 0 0) 0 [] := fun W => Own.zero _ _ _ _ _
  have hF1 : Fits (0 + l.length) := by rw [Nat.zero_add]; exact hn.le (by omega)
  have hF2 : Fits (l.length + 32) := hn.le (by omega)
  have hm1 := hF1.max
  have hl1 := hF1.mul
  have hm2 := hF2.max
  have hl2 := hF2.mul
  have hbase : ∀ o : Obj, w.heap.size ≤ (W1.drew.alloc o).heap.size := fun o => (hgrow o).size
  have hsrc2 : ∀ (o : Obj) (w1 : World), Fr (fun q => w.heap.size ≤ q ∧ (Value.slice (some ⟨W1.heap.size, 0, none⟩) 0 0).ownBlock = some q) (W1.drew.alloc o) w1 → Src Try.prog 1 23 (.slice (some ⟨w.heap.size, 0, none⟩) 32 32) 32 (bvs k) w1 := fun o w1 hf =>
    (((hbx.grow ((Below.refl _ _).drew.alloc (Nat.le_refl _) o)).fr hf (fun _ q _ hq hs => by
      cases hq
      have : W1.heap.size = w.heap.size := Option.some.inj hs.2
      omega)).src h1k Try.underlying23)
  have HGr := Held.mk hgrow
  have HBs := Held.mk hbase
  clear hbx hbox0 hz hbel hgrow HW
  go_region_law (first
    | (have zz := HO; clear zz; refine step_append rfl _ _ 23 23 rfl HO.out rfl 5 i0 (.int .u8 0) 1 Try.underlying23 hi hz0 hz1 hz2 rfl Nat.one_pos rfl (hsrc2 _ _ hfr1) hm2 hl2 (Nat.le_trans (HBs.out _) hfr1.size) ?_; intro v2 w2 hown2 hfr2 hob2)
    | (refine step_append rfl _ _ 23 23 rfl (hown0 _) rfl 5 i0 (.int .u8 0) 1 Try.underlying23 hi hz0 hz1 hz2 rfl Nat.one_pos rfl (hsrc1 _) hm1 hl1 (HBs.out _) ?_; intro v1 w1 hown1 hfr1 hob1; rw [Nat.zero_add, List.nil_append] at hown1; have HO := Held.mk hown1; clear hown1 hob1))
  all_goals
    go_wp2
    go_ret
    refine ⟨_, rfl, ?_, ((HGr.out _).trans (hfr1.own (HBs.out _))).trans (hfr2.own (Nat.le_trans (HBs.out _) hfr1.size))⟩
    rw [← bvs_append] at hown2
    rw [List.length_append, HK.out]
    exact hown2
end Go.Proofs.Ytlmegcbiijkmaaa
