/- Walks of wire: what its functions answer. Conditions: lengths within memory. -/
import Derived.Test.YtbhflfdlkiihgaaBase
import Derived.Test.YtbhflfdlkiihgaaPlainWire
import Derived.Test.YtbhflfdlkiihgaaBits
import Derived.Test.YtbhflfdlkiihgaaInfo
import Derived.Deep.DeepMust
namespace Go.Proofs.Ytbhflfdlkiihgaa
open Go.RowKit Go.Bx


set_option maxHeartbeats 400000 in
theorem clone_nil (w : World) :
    Calls Try.prog 46 #[.slice none 0 0] w fun e w' => ∃ r, e = .returned r ∧ Own w' w.heap.size 1 r 0 [] ∧ Below w.heap.size w w' := by
  have H := @Lib.run_eql_slice_nil Try.prog
  go_enter Try.func46, Try.ntmps46
  go_wp2
  go_ret
  exact ⟨_, rfl, Own.nil _ _ _, Below.refl _ _⟩
set_option maxHeartbeats 400000 in
theorem clone_some (ad : Addr) (n cap : Nat) (l : List UInt8) (w : World) (h : Sl w 1 (.slice (some ad) n cap) n (bvs l)) (hn : Fits n) :
    Calls Try.prog 46 #[.slice (some ad) n cap] w fun e w' => ∃ r, e = .returned r ∧ Own w' w.heap.size 1 r n (bvs l) ∧ Below w.heap.size w w' := by
  have H := @Lib.run_eql_slice_nil Try.prog
  obtain ⟨i0, hi, hz0, hz1, hz2⟩ := info_parts infoB
  have HS := Held.mk h
  clear h
  go_enter Try.func46, Try.ntmps46
  go_wp2_with (at_builtin; go_must (refine wpList_append rfl _ _ 29 29 rfl (Own.zero _ w.heap.size 1 _ _) rfl 5 i0 (.int .u8 0) 1 Try.underlying29 hi hz0 hz1 hz2 rfl (by decide) rfl ((HS.out.grow ?b).src (bvs_one _) Try.underlying29) ?c1 ?c2 ?c3 ?_); exact (Below.refl _ _).alloc (Nat.le_refl _) _; rw [Nat.zero_add]; exact hn.max; rw [Nat.zero_add]; exact hn.mul; simp; intro v' w1 hown1 hfr hob)
  go_ret
  rw [Nat.zero_add] at hown1
  exact ⟨_, rfl, hown1, ((Below.refl _ _).alloc (Nat.le_refl _) _).trans (hfr.own (by simp))⟩
/-- bytes.Clone: a slice of the call's own that reads as what came in. -/
theorem clone_any (v : Value) (n : Nat) (l : List UInt8) (w : World) (h : Sl w 1 v n (bvs l)) (hn : Fits n) :
    Calls Try.prog 46 #[v] w fun e w' => ∃ r, e = .returned r ∧ Own w' w.heap.size 1 r n (bvs l) ∧ Below w.heap.size w w' := by
  obtain ⟨hl, a, cap, rfl, hc, hm, h0, h1⟩ := id h
  rcases a with _ | ad
  · obtain rfl := h0 rfl
    obtain rfl : n = 0 := by omega
    obtain rfl : l = [] := by simpa [bvs] using hl
    exact clone_nil w
  · exact clone_some ad n cap l w h hn

theorem or_more (x : Int) (h0 : 0 ≤ x) : Value.int .u8 (bits .or .u8 (x % 256) 128) = bv (UInt8.ofNat (x.toNat % 128 + 128)) := by
  have e : (x % 256) = ((x.toNat % 256 : Nat) : Int) := by omega
  rw [e, show (128 : Int) = ((128 : Nat) : Int) from rfl, u8_or_nat _ _ (by omega) (by omega), bv_ofNat _ (by omega)]
  congr 2
  have : ∀ a : Fin 256, a.val ||| 128 = a.val % 128 + 128 := by decide +kernel
  have := this ⟨x.toNat % 256, by omega⟩
  simp only at this
  rw [this]; omega
structure NumRel (w : World) (L : List UInt8) (x out : Value) (wr : World) : Prop where
  ex : ∃ (u : Int) (pre : List UInt8), x = .int .i64 u ∧ 0 ≤ u ∧ I64 u ∧ Own wr w.heap.size 1 out pre.length (bvs pre) ∧ pre ++ enc u.toNat = L ∧ Below w.heap.size w wr
set_option maxHeartbeats 400000 in
theorem num_core (b : Value) (l L : List UInt8) (v : Int) (w : World) (hL : Held (l ++ enc v.toNat = L)) (hLn : Fits (L.length + 1)) (h : Sl w 1 b l.length (bvs l)) (hn : Fits l.length) (hv : I64 v) :
    Calls Try.prog 27 #[b, .int .i64 v] w fun e w' => ∃ r, e = .returned r ∧ Own w' w.heap.size 1 r L.length (bvs L) ∧ Below w.heap.size w w' := by
  obtain ⟨i0, hi, hz0, hz1, hz2⟩ := info_parts infoB
  have HS := Held.mk h
  clear h
  go_enter Try.func27, Try.ntmps27
  go_wp2_with (go_at_call 46; refine (clone_any _ _ _ _ HS.out hn).mono ?_; rintro e w1 ⟨r, rfl, hown1, hb1⟩)
  all_goals
    go_loopw [1, 5] (fun x out wr => NumRel w L x out wr) (fun x _ _ => (intOf x).toNat)
    case atStart =>
      refine ⟨⟨_, l, rfl, by omega, ?_, hown1, ?_, hb1⟩⟩
      · first | exact hv | exact ⟨by omega, by omega⟩
      · first | exact hL.out | (rw [← hL.out, show v.toNat = (0 : Int).toNat from by omega])
    case round =>
      obtain ⟨u, pre, rfl, hu0, hu, hown, hpre, hb⟩ := hrel.ex
      have HO := Held.mk hown
      have HP := Held.mk hpre
      have hpl : pre.length + 1 ≤ L.length + 1 := by have := congrArg List.length hpre; simp at this; omega
      clear hown hpre hrel hown1 hb1
      by_cases h128 : u < 128
      · go_wp2_with (at_builtin; go_must (refine wpList_append rfl _ _ 29 29 rfl (HO.out.grow ?_) rfl 5 i0 (.int .u8 0) 1 Try.underlying29 hi hz0 hz1 hz2 rfl (by decide) rfl ((Sl.one _ _ _).src ?_ Try.underlying29) ?_ ?_ ?_ ?_); exact (Below.refl _ _).alloc (Nat.le_refl _) _; simp [Value.oneCell']; exact (hLn.le hpl).max; exact (hLn.le hpl).mul; exact Nat.le_trans hb.size (by simp); intro v' w2 hown2 hfr hob)
        go_ret
        have e : pre ++ [UInt8.ofNat u.toNat] = L := by rw [← enc_small _ (show u.toNat < 128 by omega)]; exact HP.out
        have el : pre.length + 1 = L.length := by rw [← e]; simp
        rw [bv_ofInt u hu0 (by omega), bvs_snoc, e, el] at hown2
        exact ⟨_, rfl, hown2, (hb.alloc hb.size _).trans (hfr.own (Nat.le_trans hb.size (by simp)))⟩
      · go_wp2_with (at_builtin; go_must (refine wpList_append rfl _ _ 29 29 rfl (HO.out.grow ?_) rfl 5 i0 (.int .u8 0) 1 Try.underlying29 hi hz0 hz1 hz2 rfl (by decide) rfl ((Sl.one _ _ _).src ?_ Try.underlying29) ?_ ?_ ?_ ?_); exact (Below.refl _ _).alloc (Nat.le_refl _) _; simp [Value.oneCell']; exact (hLn.le hpl).max; exact (hLn.le hpl).mul; exact Nat.le_trans hb.size (by simp); intro v' w2 hown2 hfr hob)
        go_roundw
        case rel =>
          rw [or_more u hu0, bvs_snoc] at hown2
          refine ⟨⟨_, pre ++ [UInt8.ofNat (u.toNat % 128 + 128)], rfl, by omega, ⟨by have := hu.lo; omega, by have := hu.hi; omega⟩, ?_, ?_, ?_⟩⟩
          · rw [List.length_append]; exact hown2
          · rw [List.append_assoc, List.singleton_append, show (u / 128).toNat = u.toNat / 128 from by omega, ← enc_big _ (by omega) (by have := hu.hi; omega)]; exact HP.out
          · exact (hb.alloc hb.size _).trans (hfr.own (Nat.le_trans hb.size (by simp)))
        case measure => simp [intOf]; omega
/-- wire.Num: what is there, and the number's groups. -/
theorem num_any (b : Value) (l : List UInt8) (v : Int) (w : World) (h : Sl w 1 b l.length (bvs l)) (hn : Fits (l.length + 16)) (hv : I64 v) :
    Calls Try.prog 27 #[b, .int .i64 v] w fun e w' => ∃ r, e = .returned r ∧ Own w' w.heap.size 1 r (l ++ enc v.toNat).length (bvs (l ++ enc v.toNat)) ∧ Below w.heap.size w w' :=
  num_core b l _ v w ⟨rfl⟩ (hn.le (by have := enc_len v.toNat (by have := hv.hi; omega); simp; omega)) h (hn.le (by omega)) hv
/-- The reader's type. -/
abbrev RTy := { t : TypeId // t = 74 }
/-- The reader at block g has the bytes l before it; they lie in block q. -/
structure Rdr (w : World) (g q : Nat) (l : List UInt8) (bad : Bool) : Prop where
  ex : ∃ (sv : Value) (t : RTy), w.heap[g]? = some (.cells #[sv, .bool bad] t (0, 0)) ∧ Sl w 1 sv l.length (bvs l) ∧ (0 < l.length → sv.ownBlock = some q ∧ q ≠ g)
theorem Rdr.lt {w : World} {g q : Nat} {l : List UInt8} {bad : Bool} (h : Rdr w g q l bad) : g < w.heap.size := by
  obtain ⟨sv, t, hg, _⟩ := h.ex
  exact (Array.getElem?_eq_some_iff.1 hg).1
theorem Rdr.blk {w : World} {g q : Nat} {l : List UInt8} {bad : Bool} (h : Rdr w g q l bad) (hl : 0 < l.length) : q < w.heap.size := by
  obtain ⟨sv, t, hg, hs, hq⟩ := h.ex
  exact hs.blk hl (hq hl).1
theorem Rdr.fr {S : Nat → Prop} {w w' : World} {g q : Nat} {l : List UInt8} {bad : Bool} (h : Rdr w g q l bad) (hf : Fr S w w') (hS : ¬ S g) (hq : 0 < l.length → ¬ S q) : Rdr w' g q l bad := by
  obtain ⟨sv, t, hg, hs, hne⟩ := id h.ex
  exact ⟨sv, t, by rw [hf.block g h.lt hS]; exact hg, hs.fr hf (fun hp k _ hk => by rw [(hne hp).1] at hk; cases hk; exact hq hp), hne⟩
theorem Rdr.grow {w w' : World} {g q : Nat} {l : List UInt8} {bad : Bool} (h : Rdr w g q l bad) (hf : Below w.heap.size w w') : Rdr w' g q l bad := by
  obtain ⟨sv, t, hg, hs, hne⟩ := id h.ex
  exact ⟨sv, t, by rw [hf.block g h.lt]; exact hg, hs.grow hf, hne⟩

set_option maxHeartbeats 400000 in
theorem read_any (b : Value) (l : List UInt8) (w : World) (h : Sl w 1 b l.length (bvs l)) (hn : Fits l.length) :
    Calls Try.prog 22 #[b] w fun e w' => ∃ g q, e = .returned (.pointer (some ⟨g, 0, none⟩)) ∧ Rdr w' g q l false ∧ w.heap.size ≤ g ∧ w.heap.size ≤ q ∧ Below w.heap.size w w' := by
  have HS := Held.mk h
  clear h
  go_enter Try.func22, Try.ntmps22
  go_wp2_with (go_at_call 46; refine (clone_any _ _ _ _ HS.out hn).mono ?_; rintro e w1 ⟨r, rfl, hown1, hb1⟩; obtain ⟨ra, rc, rfl⟩ := hown1.form; have HO := Held.mk hown1; clear hown1)
  go_ret
  have hsl := (HO.out.grow ((Below.refl _ _).alloc (Nat.le_refl _) (.cells #[Value.slice ra l.length rc, .bool false] 74))).sl
  by_cases hp : 0 < l.length
  · cases ra with
    | none =>
      obtain ⟨_, ⟨h0, _⟩ | ⟨g, o, cap, hf, _⟩⟩ := HO.out
      · omega
      · cases hf
    | some ad =>
      have h1 := HO.out.old (g := ad.block) rfl hp
      have h2 := HO.out.sl.blk hp (k := ad.block) rfl
      exact ⟨_, ad.block, rfl, ⟨_, ⟨_, rfl⟩, heap_alloc_new _ _, hsl, fun _ => ⟨rfl, by omega⟩⟩, hb1.size, h1, hb1.alloc hb1.size _⟩
  · exact ⟨_, w.heap.size, rfl, ⟨_, ⟨_, rfl⟩, heap_alloc_new _ _, hsl, fun h => absurd h hp⟩, hb1.size, Nat.le_refl _, hb1.alloc hb1.size _⟩
set_option maxHeartbeats 400000 in
theorem fail_any (g q : Nat) (l : List UInt8) (bad : Bool) (w : World) (h : Rdr w g q l bad) :
    Calls Try.prog 47 #[.pointer (some ⟨g, 0, none⟩)] w fun e w' => e = .returned (.int .i64 0) ∧ Rdr w' g q [] true ∧ Fr (· = g) w w' := by
  obtain ⟨sv, t, hg, hs, hne⟩ := h.ex
  have c0 : w.cell? ⟨g, 0, none⟩ = some sv := by rw [cell_of_row w g 0 _ _ _ hg]; rfl
  have c1 : w.cell? ⟨g, 1, none⟩ = some (.bool bad) := by rw [cell_of_row w g 1 _ _ _ hg]; rfl
  have f0 : w.frozen? ⟨g, 0, none⟩ = false := frozen_of_row w g 0 _ _ hg
  have f1 : w.frozen? ⟨g, 1, none⟩ = false := frozen_of_row w g 1 _ _ hg
  have HG := Held.mk hg
  have HS := Held.mk hs
  clear hg hs h
  go_enter Try.func47, Try.ntmps47
  go_wp2
  go_ret
  refine ⟨rfl, ⟨_, _, (heap_setCell_same _ _ _ _ _ _ (heap_setCell_same _ _ _ _ _ _ HG.out)), Sl.zero _ _, by intro h; simp at h⟩, ?_⟩
  exact (Fr.setCell (S := (· = g)) w (p := ⟨g, 0, none⟩) rfl _).trans (Fr.setCell (S := (· = g)) _ (p := ⟨g, 1, none⟩) rfl _)
set_option maxHeartbeats 400000 in
theorem take_no (g q : Nat) (l : List UInt8) (bad : Bool) (x : Int) (w : World) (h : Rdr w g q l bad) (hx : (l.length : Int) < x) :
    Calls Try.prog 54 #[.pointer (some ⟨g, 0, none⟩), .int .i64 x] w fun e w' => ∃ r, e = .returned r ∧ Own w' w.heap.size 1 r 0 [] ∧ Rdr w' g q [] true ∧ Fr (· = g) w w' := by
  obtain ⟨sv, t, hg, hs, hne⟩ := h.ex
  obtain ⟨a, c, rfl⟩ := hs.form
  have c0 : w.cell? ⟨g, 0, none⟩ = some (.slice a l.length c) := by rw [cell_of_row w g 0 _ _ _ hg]; rfl
  have HR := Held.mk h
  clear hg hs h
  go_enter Try.func54, Try.ntmps54
  go_wp2_with (go_at_call 47; refine (fail_any g q l bad _ HR.out).mono ?_; rintro e w1 ⟨rfl, hr1, hf1⟩)
  go_ret
  exact ⟨_, rfl, Own.nil _ _ _, hr1, hf1⟩
theorem Rdr.moved {w w1 : World} {g q : Nat} {sv sv2 : Value} {bad : Bool} {t : RTy} {l2 : List UInt8} (hg : w.heap[g]? = some (.cells #[sv, .bool bad] t (0, 0))) (hb : Below w.heap.size w w1)
    (h2 : Sl w1 1 sv2 l2.length (bvs l2)) (hne : 0 < l2.length → sv2.ownBlock = some q ∧ q ≠ g) : Rdr (w1.setCell ⟨g, 0, none⟩ sv2) g q l2 bad := by
  have hlt : g < w.heap.size := (Array.getElem?_eq_some_iff.1 hg).1
  have hg1 := hb.block g hlt
  rw [hg] at hg1
  exact ⟨_, _, heap_setCell_same _ _ _ _ _ _ hg1, h2.fr (Fr.setCell (S := (· = g)) _ (p := ⟨g, 0, none⟩) rfl _) (fun hp k _ hk e => by rw [(hne hp).1] at hk; cases hk; exact (hne hp).2 e), hne⟩
set_option maxHeartbeats 400000 in
theorem take_yes (g q : Nat) (l : List UInt8) (bad : Bool) (x : Int) (w : World) (h : Rdr w g q l bad) (h0 : 0 ≤ x) (hx : x ≤ (l.length : Int)) (hl : Fits l.length) :
    Calls Try.prog 54 #[.pointer (some ⟨g, 0, none⟩), .int .i64 x] w fun e w' => ∃ r, e = .returned r ∧ Own w' w.heap.size 1 r x.toNat (bvs (l.take x.toNat)) ∧ Rdr w' g q (l.drop x.toNat) bad ∧ Fr (· = g) w w' := by
  obtain ⟨sv, t, hg, hs, hne⟩ := h.ex
  obtain ⟨a, c, rfl⟩ := hs.form
  obtain ⟨i0, hi, hz0, hz1, hz2⟩ := info_parts infoB
  have c0 : w.cell? ⟨g, 0, none⟩ = some (.slice a l.length c) := by rw [cell_of_row w g 0 _ _ _ hg]; rfl
  obtain ⟨a1, c1, hr1, hs1, hb1⟩ := ex_cut_h Try.underlying29 hi hs .i64 x h0 hx
  obtain ⟨a2, c2, hr2, hs2, _, hb2⟩ := ex_cut_l Try.underlying29 hi hs hz1 .i64 x h0 hx
  have HS1 := Held.mk hs1
  have HS2 := Held.mk hs2
  have HR := Held.mk h
  have HS := Held.mk hs
  have HG := Held.mk hg
  have HN := Held.mk hne
  have HB2 := Held.mk hb2
  clear hg hs h hs1 hs2 hi hz0 hz1 hz2 hb1 hb2 hne
  go_enter Try.func54, Try.ntmps54
  go_wp2_with fail
  refine (clone_any _ _ (l.take x.toNat) _ (by rw [← bvs_take]; exact HS1.out _ HS.out) (hl.le (by omega))).mono ?_
  rintro e w1 ⟨r, rfl, hown, hbw⟩
  obtain ⟨ra, rc, rfl⟩ := hown.form
  have hg1 := hbw.block g HR.out.lt
  rw [HG.out] at hg1
  have d0 : w1.cell? ⟨g, 0, none⟩ = some (.slice a l.length c) := by rw [hbw.cell (p := ⟨g, 0, none⟩) HR.out.lt]; exact c0
  have f0 : w1.frozen? ⟨g, 0, none⟩ = false := frozen_of_row w1 g 0 _ _ hg1
  have HO := Held.mk hown
  have HB := Held.mk hbw
  clear hown hg1 hbw c0
  go_wp2
  go_ret
  have hfr : Fr (· = g) w1 (w1.setCell ⟨g, 0, none⟩ (.slice a2 (l.length - x.toNat) c2)) := Fr.setCell (S := (· = g)) _ (p := ⟨g, 0, none⟩) rfl _
  have hdl : (l.drop x.toNat).length = l.length - x.toNat := List.length_drop
  refine ⟨_, rfl, HO.out.fr hfr (fun k hk _ e => by have := HR.out.lt; omega), ?_, (Fr.ofBelow HB.out _).trans hfr⟩
  refine Rdr.moved HG.out HB.out (by rw [hdl, ← bvs_drop]; exact HS2.out _ (HS.out.grow HB.out)) (fun hp => ?_)
  rw [HB2.out]; exact HN.out (by omega)
/-- What reading a number leaves: it, and what is behind it; none: bad. -/
def numV (most : Int) (l : List UInt8) : Int := match dec most.toNat l with | some (v, _) => v | none => 0
def numL (most : Int) (l : List UInt8) : List UInt8 := match dec most.toNat l with | some (_, r) => r | none => []
def numB (most : Int) (l : List UInt8) (bad : Bool) : Bool := match dec most.toNat l with | some _ => bad | none => true
theorem none_num {most : Int} {l : List UInt8} (bad : Bool) (h : dec most.toNat l = none) : numV most l = 0 ∧ numL most l = [] ∧ numB most l bad = true := by
  unfold numV numL numB; simp [h]
theorem some_num {most : Int} {l r : List UInt8} {v : Nat} (bad : Bool) (h : dec most.toNat l = some (v, r)) : numV most l = v ∧ numL most l = r ∧ numB most l bad = bad := by
  unfold numV numL numB; simp [h]
set_option maxHeartbeats 4000000 in
theorem rnum_any (g q : Nat) (l : List UInt8) (bad : Bool) (x : Int) (w : World) (h : Rdr w g q l bad) :
    Calls Try.prog 23 #[.pointer (some ⟨g, 0, none⟩), .int .i64 x] w fun e w' => e = .returned (.int .i64 (numV x l)) ∧ Rdr w' g q (numL x l) (numB x l bad) ∧ Fr (· = g) w w' := by
  obtain ⟨sv, t, hg, hs, hne⟩ := h.ex
  obtain ⟨a, c, rfl⟩ := hs.form
  obtain ⟨i0, hi, hz0, hz1, hz2⟩ := info_parts infoB
  have c0 : w.cell? ⟨g, 0, none⟩ = some (.slice a l.length c) := by rw [cell_of_row w g 0 _ _ _ hg]; rfl
  have f0 : w.frozen? ⟨g, 0, none⟩ = false := frozen_of_row w g 0 _ _ hg
  have HR := Held.mk h
  have HS := Held.mk hs
  have HG := Held.mk hg
  have HN := Held.mk hne
  clear hg hs h hne
  by_cases h00 : l.length = 0
  · obtain rfl : l = [] := List.eq_nil_of_length_eq_zero h00
    obtain ⟨a1, c1, hr1, _, _⟩ := ex_cut_h Try.underlying29 hi HS.out .i64 (0 : Int) (by omega) (by simp)
    rw [show (0 : Int).toNat = 0 from rfl] at hr1
    simp only [List.length_nil] at c0 hr1
    clear hi hz0 hz1 hz2 h00
    go_enter Try.func23, Try.ntmps23
    go_wp2
    go_quiet (fail)
    go_wp2
    go_loop [20] (fun i => i = .int .i64 0) (fun _ => 0)
    case atStart => rfl
    case round =>
      subst hrel
      go_wp2_with (go_at_call 47; refine (fail_any g q [] bad _ (HR.out.fr (Fr.drewN (fun _ => False) _ _) id (fun _ => id))).mono ?_; rintro e w1 ⟨rfl, hr1, hf1⟩)
      go_ret
      obtain ⟨q1, q2, q3⟩ := none_num (most := x) (l := []) bad rfl
      rw [q1, q2, q3]
      exact ⟨rfl, hr1, (Fr.drewN _ _ _).trans hf1⟩
  by_cases h9 : l.length ≤ 9
  · obtain ⟨a1, c1, hr1, hs1, hb1⟩ := ex_cut_h Try.underlying29 hi HS.out .i64 (l.length : Int) (by omega) (by omega)
    rw [show ((l.length : Int)).toNat = l.length from by first | rfl | exact Int.toNat_natCast _] at hr1 hs1
    have hs1 := hs1 w HS.out
    obtain ⟨_, _, _, hfm, _, _, _, hs1⟩ := hs1
    cases hfm
    rcases hs1 with hz | ⟨g1, o1, rfl, hg1, hc1⟩
    · omega
    have HC := Held.mk hc1
    have HI0 := Held.mk hi
    have HZ1 := Held.mk hz1
    clear hc1 hb1 hi hz0 hz1 hz2
    go_enter Try.func23, Try.ntmps23
    go_wp2
    go_quiet (fail)
    go_wp2
    go_loop [5, 20] (fun v i => ∃ (k : Nat) (acc : Int), v = .int .i64 acc ∧ i = .int .i64 k ∧ k ≤ l.length ∧ 0 ≤ acc ∧ Held (acc.toNat < 128 ^ k) ∧ Held (decF 9 0 0 l = decF (9 - k) k acc.toNat (l.drop k))) (fun _ i => l.length - (intOf i).toNat)
    case atStart => exact ⟨0, 0, rfl, rfl, by omega, by omega, ⟨by decide⟩, ⟨rfl⟩⟩
    case round =>
      obtain ⟨k, acc, rfl, rfl, hk, ha0, hlt, hdec⟩ := hrel
      obtain ⟨an, han⟩ : ∃ an : Nat, acc = (an : Int) := ⟨acc.toNat, by omega⟩
      have HD : Held (decF 9 0 0 l = decF (9 - k) k an (l.drop k)) := by have := hdec.out; rw [han] at this; exact ⟨by simpa using this⟩
      have HLT : Held (an < 128 ^ k) := by have := hlt.out; rw [han] at this; exact ⟨by simpa using this⟩
      clear hdec hlt
      by_cases hkl : k < l.length
      · have hkl2 : k < l.length := by omega
        have hcell : w.cell? ⟨g1, o1 + k, none⟩ = some (.int .u8 (l[k].toNat : Int)) := HC.out k _ (by rw [List.getElem?_take_of_lt (by omega)]; simp [bvs, bv, hkl2])
        obtain ⟨ci, hci⟩ : ∃ ci : Int, ci = (l[k].toNat : Int) := ⟨_, rfl⟩
        have hci0 : 0 ≤ ci := by omega
        have hci1 : ci ≤ 255 := by have := l[k].toNat_lt; omega
        by_cases hc : ci < 128
        · have e1 : bits .and .u8 ci 128 = 0 := by rw [hci]; exact and128_lt _ (by omega)
          have e2 : bits .andNot .u8 ci 128 = ci := by rw [hci, andNot128 _ (by omega)]; omega
          obtain ⟨na, hna⟩ : ∃ na : Int, na = ((an + l[k].toNat * 128 ^ k : Nat) : Int) := ⟨_, rfl⟩
          have e3 : bits .or .i64 acc (wrap64 (ci * 2 ^ (7 * k))) = na := by rw [han, hci, hna]; exact or_shl _ _ _ HLT.out (by omega) (by omega)
          rw [← hci] at hcell
          have HI := Held.mk hci
          have HN2 := Held.mk hna
          have HC2 : Held (l[k].toNat < 128) := ⟨by omega⟩
          clear hci hna han
          obtain ⟨a2, c2, hr2, hs2, _, hb2⟩ := ex_cut_l Try.underlying29 HI0.out HS.out HZ1.out .i64 ((k : Int) + 1) (by omega) (by omega)
          rw [show ((k : Int) + 1).toNat = k + 1 from by omega] at hr2 hs2 hb2
          have HS2 := Held.mk hs2
          have HB2 := Held.mk hb2
          clear hs2 hb2
          by_cases hA : 0 < k ∧ ci = 0
          · obtain ⟨hA1, rfl⟩ := hA
            go_wp2_with (go_at_call 47; refine (fail_any g q l bad _ (HR.out.fr (Fr.drewN (fun _ => False) _ _) id (fun _ => id))).mono ?_; rintro e w1 ⟨rfl, hr1, hf1⟩)
            go_ret
            obtain ⟨q1, q2, q3⟩ := none_num (most := x) bad (dec_nought (by omega) hkl2 hA1 (by have := HI.out; omega) HD.out)
            rw [q1, q2, q3]
            exact ⟨rfl, hr1, (Fr.drewN _ _ _).trans hf1⟩
          · have HA : Held (¬ (0 < k ∧ l[k].toNat = 0)) := ⟨fun h => hA ⟨h.1, by rw [HI.out, h.2]; rfl⟩⟩
            have hA2 : ¬ 0 < k ∨ (0 < k ∧ (ci == 0) = false) := by
              by_cases h : 0 < k
              · exact .inr ⟨h, beq_eq_false_iff_ne.2 fun e => hA ⟨h, e⟩⟩
              · exact .inl h
            clear hA
            by_cases hx0 : x < 0
            · by_cases hB : 0 < na
              · rcases hA2 with hA2 | ⟨hA2, hA3⟩
                · skip
                  go_wp2_with (go_at_call 47; refine (fail_any g q l bad _ (HR.out.fr (Fr.drewN (fun _ => False) _ _) id (fun _ => id))).mono ?_; rintro e w1 ⟨rfl, hr1, hf1⟩)
                  go_ret
                  obtain ⟨q1, q2, q3⟩ := none_num (most := x) bad (dec_big (by omega) hkl2 HC2.out HA.out (by have := HN2.out; omega) HD.out)
                  rw [q1, q2, q3]
                  exact ⟨rfl, hr1, (Fr.drewN _ _ _).trans hf1⟩
                · skip
                  go_wp2_with (go_at_call 47; refine (fail_any g q l bad _ (HR.out.fr (Fr.drewN (fun _ => False) _ _) id (fun _ => id))).mono ?_; rintro e w1 ⟨rfl, hr1, hf1⟩)
                  go_ret
                  obtain ⟨q1, q2, q3⟩ := none_num (most := x) bad (dec_big (by omega) hkl2 HC2.out HA.out (by have := HN2.out; omega) HD.out)
                  rw [q1, q2, q3]
                  exact ⟨rfl, hr1, (Fr.drewN _ _ _).trans hf1⟩
              · rcases hA2 with hA2 | ⟨hA2, hA3⟩
                · skip
                  go_wp2_with fail
                  go_ret
                  obtain ⟨q1, q2, q3⟩ := some_num (most := x) bad (dec_good (by omega) hkl2 HC2.out HA.out (by have := HN2.out; omega) HD.out)
                  rw [q1, q2, q3]
                  have hfr : Fr (· = g) (w.drewN nq) ((w.drewN nq).setCell ⟨g, 0, none⟩ (.slice a2 (l.length - (k + 1)) c2)) := Fr.setCell (S := (· = g)) _ (p := ⟨g, 0, none⟩) rfl _
                  have hdl : (l.drop (k + 1)).length = l.length - (k + 1) := List.length_drop
                  refine ⟨by rw [HN2.out]; rfl, ?_, (Fr.drewN _ _ _).trans hfr⟩
                  refine Rdr.moved (w := w.drewN nq) HG.out (Below.refl _ _) (by rw [hdl, ← bvs_drop]; exact HS2.out _ (HS.out.fr (Fr.drewN (fun _ => False) _ _) (fun _ _ _ _ => id))) (fun hp => ?_)
                  rw [HB2.out]; exact HN.out (by omega)
                · skip
                  go_wp2_with fail
                  go_ret
                  obtain ⟨q1, q2, q3⟩ := some_num (most := x) bad (dec_good (by omega) hkl2 HC2.out HA.out (by have := HN2.out; omega) HD.out)
                  rw [q1, q2, q3]
                  have hfr : Fr (· = g) (w.drewN nq) ((w.drewN nq).setCell ⟨g, 0, none⟩ (.slice a2 (l.length - (k + 1)) c2)) := Fr.setCell (S := (· = g)) _ (p := ⟨g, 0, none⟩) rfl _
                  have hdl : (l.drop (k + 1)).length = l.length - (k + 1) := List.length_drop
                  refine ⟨by rw [HN2.out]; rfl, ?_, (Fr.drewN _ _ _).trans hfr⟩
                  refine Rdr.moved (w := w.drewN nq) HG.out (Below.refl _ _) (by rw [hdl, ← bvs_drop]; exact HS2.out _ (HS.out.fr (Fr.drewN (fun _ => False) _ _) (fun _ _ _ _ => id))) (fun hp => ?_)
                  rw [HB2.out]; exact HN.out (by omega)
            · by_cases hB : x < na
              · rcases hA2 with hA2 | ⟨hA2, hA3⟩
                · skip
                  go_wp2_with (go_at_call 47; refine (fail_any g q l bad _ (HR.out.fr (Fr.drewN (fun _ => False) _ _) id (fun _ => id))).mono ?_; rintro e w1 ⟨rfl, hr1, hf1⟩)
                  go_ret
                  obtain ⟨q1, q2, q3⟩ := none_num (most := x) bad (dec_big (by omega) hkl2 HC2.out HA.out (by have := HN2.out; omega) HD.out)
                  rw [q1, q2, q3]
                  exact ⟨rfl, hr1, (Fr.drewN _ _ _).trans hf1⟩
                · skip
                  go_wp2_with (go_at_call 47; refine (fail_any g q l bad _ (HR.out.fr (Fr.drewN (fun _ => False) _ _) id (fun _ => id))).mono ?_; rintro e w1 ⟨rfl, hr1, hf1⟩)
                  go_ret
                  obtain ⟨q1, q2, q3⟩ := none_num (most := x) bad (dec_big (by omega) hkl2 HC2.out HA.out (by have := HN2.out; omega) HD.out)
                  rw [q1, q2, q3]
                  exact ⟨rfl, hr1, (Fr.drewN _ _ _).trans hf1⟩
              · rcases hA2 with hA2 | ⟨hA2, hA3⟩
                · skip
                  go_wp2_with fail
                  go_ret
                  obtain ⟨q1, q2, q3⟩ := some_num (most := x) bad (dec_good (by omega) hkl2 HC2.out HA.out (by have := HN2.out; omega) HD.out)
                  rw [q1, q2, q3]
                  have hfr : Fr (· = g) (w.drewN nq) ((w.drewN nq).setCell ⟨g, 0, none⟩ (.slice a2 (l.length - (k + 1)) c2)) := Fr.setCell (S := (· = g)) _ (p := ⟨g, 0, none⟩) rfl _
                  have hdl : (l.drop (k + 1)).length = l.length - (k + 1) := List.length_drop
                  refine ⟨by rw [HN2.out]; rfl, ?_, (Fr.drewN _ _ _).trans hfr⟩
                  refine Rdr.moved (w := w.drewN nq) HG.out (Below.refl _ _) (by rw [hdl, ← bvs_drop]; exact HS2.out _ (HS.out.fr (Fr.drewN (fun _ => False) _ _) (fun _ _ _ _ => id))) (fun hp => ?_)
                  rw [HB2.out]; exact HN.out (by omega)
                · skip
                  go_wp2_with fail
                  go_ret
                  obtain ⟨q1, q2, q3⟩ := some_num (most := x) bad (dec_good (by omega) hkl2 HC2.out HA.out (by have := HN2.out; omega) HD.out)
                  rw [q1, q2, q3]
                  have hfr : Fr (· = g) (w.drewN nq) ((w.drewN nq).setCell ⟨g, 0, none⟩ (.slice a2 (l.length - (k + 1)) c2)) := Fr.setCell (S := (· = g)) _ (p := ⟨g, 0, none⟩) rfl _
                  have hdl : (l.drop (k + 1)).length = l.length - (k + 1) := List.length_drop
                  refine ⟨by rw [HN2.out]; rfl, ?_, (Fr.drewN _ _ _).trans hfr⟩
                  refine Rdr.moved (w := w.drewN nq) HG.out (Below.refl _ _) (by rw [hdl, ← bvs_drop]; exact HS2.out _ (HS.out.fr (Fr.drewN (fun _ => False) _ _) (fun _ _ _ _ => id))) (fun hp => ?_)
                  rw [HB2.out]; exact HN.out (by omega)
        · have e1 : bits .and .u8 ci 128 = 128 := by rw [hci]; exact and128_ge _ (by omega) (by omega)
          have e2 : bits .andNot .u8 ci 128 = ci - 128 := by rw [hci, andNot128 _ (by omega)]; omega
          obtain ⟨na, hna⟩ : ∃ na : Int, na = ((an + (l[k].toNat - 128) * 128 ^ k : Nat) : Int) := ⟨_, rfl⟩
          have e3 : bits .or .i64 acc (wrap64 ((ci - 128) * 2 ^ (7 * k))) = na := by
            rw [han, hna, show ci - 128 = ((l[k].toNat - 128 : Nat) : Int) from by omega]; exact or_shl _ _ _ HLT.out (by omega) (by omega)
          rw [← hci] at hcell
          have HN2 := Held.mk hna
          have HC2 : Held (128 ≤ l[k].toNat ∧ l[k].toNat < 256) := ⟨by omega⟩
          clear hci hna han
          go_wp2_with fail
          go_round
          case rel =>
            refine ⟨k + 1, na, rfl, by go_num, by omega, by rw [HN2.out]; omega, ⟨?_⟩, ⟨?_⟩⟩
            · rw [HN2.out, Int.toNat_natCast, Nat.pow_succ]
              have := Nat.mul_le_mul_right (128 ^ k) (show l[k].toNat - 128 ≤ 127 by have := HC2.out; omega)
              have := HLT.out; omega
            · rw [HN2.out, Int.toNat_natCast]; exact decF_more (by omega) hkl2 HC2.out.1 HD.out
          case measure => simp [intOf]; omega
      · have hkk : Held (k = l.length ∨ k = 9) := ⟨by omega⟩
        clear han
        go_wp2_with (go_at_call 47; refine (fail_any g q l bad _ (HR.out.fr (Fr.drewN (fun _ => False) _ _) id (fun _ => id))).mono ?_; rintro e w1 ⟨rfl, hr1, hf1⟩)
        go_ret
        obtain ⟨q1, q2, q3⟩ := none_num (most := x) bad (dec_end hkk.out HD.out)
        rw [q1, q2, q3]
        exact ⟨rfl, hr1, (Fr.drewN _ _ _).trans hf1⟩
  · obtain ⟨a1, c1, hr1, hs1, hb1⟩ := ex_cut_h Try.underlying29 hi HS.out .i64 (9 : Int) (by omega) (by omega)
    rw [show ((9 : Int)).toNat = 9 from by first | rfl | exact Int.toNat_natCast _] at hr1 hs1
    have hs1 := hs1 w HS.out
    obtain ⟨_, _, _, hfm, _, _, _, hs1⟩ := hs1
    cases hfm
    rcases hs1 with hz | ⟨g1, o1, rfl, hg1, hc1⟩
    · omega
    have HC := Held.mk hc1
    have HI0 := Held.mk hi
    have HZ1 := Held.mk hz1
    clear hc1 hb1 hi hz0 hz1 hz2
    go_enter Try.func23, Try.ntmps23
    go_wp2
    go_quiet (fail)
    go_wp2
    go_loop [5, 20] (fun v i => ∃ (k : Nat) (acc : Int), v = .int .i64 acc ∧ i = .int .i64 k ∧ k ≤ 9 ∧ 0 ≤ acc ∧ Held (acc.toNat < 128 ^ k) ∧ Held (decF 9 0 0 l = decF (9 - k) k acc.toNat (l.drop k))) (fun _ i => 9 - (intOf i).toNat)
    case atStart => exact ⟨0, 0, rfl, rfl, by omega, by omega, ⟨by decide⟩, ⟨rfl⟩⟩
    case round =>
      obtain ⟨k, acc, rfl, rfl, hk, ha0, hlt, hdec⟩ := hrel
      obtain ⟨an, han⟩ : ∃ an : Nat, acc = (an : Int) := ⟨acc.toNat, by omega⟩
      have HD : Held (decF 9 0 0 l = decF (9 - k) k an (l.drop k)) := by have := hdec.out; rw [han] at this; exact ⟨by simpa using this⟩
      have HLT : Held (an < 128 ^ k) := by have := hlt.out; rw [han] at this; exact ⟨by simpa using this⟩
      clear hdec hlt
      by_cases hkl : k < 9
      · have hkl2 : k < l.length := by omega
        have hcell : w.cell? ⟨g1, o1 + k, none⟩ = some (.int .u8 (l[k].toNat : Int)) := HC.out k _ (by rw [List.getElem?_take_of_lt (by omega)]; simp [bvs, bv, hkl2])
        obtain ⟨ci, hci⟩ : ∃ ci : Int, ci = (l[k].toNat : Int) := ⟨_, rfl⟩
        have hci0 : 0 ≤ ci := by omega
        have hci1 : ci ≤ 255 := by have := l[k].toNat_lt; omega
        by_cases hc : ci < 128
        · have e1 : bits .and .u8 ci 128 = 0 := by rw [hci]; exact and128_lt _ (by omega)
          have e2 : bits .andNot .u8 ci 128 = ci := by rw [hci, andNot128 _ (by omega)]; omega
          obtain ⟨na, hna⟩ : ∃ na : Int, na = ((an + l[k].toNat * 128 ^ k : Nat) : Int) := ⟨_, rfl⟩
          have e3 : bits .or .i64 acc (wrap64 (ci * 2 ^ (7 * k))) = na := by rw [han, hci, hna]; exact or_shl _ _ _ HLT.out (by omega) (by omega)
          rw [← hci] at hcell
          have HI := Held.mk hci
          have HN2 := Held.mk hna
          have HC2 : Held (l[k].toNat < 128) := ⟨by omega⟩
          clear hci hna han
          obtain ⟨a2, c2, hr2, hs2, _, hb2⟩ := ex_cut_l Try.underlying29 HI0.out HS.out HZ1.out .i64 ((k : Int) + 1) (by omega) (by omega)
          rw [show ((k : Int) + 1).toNat = k + 1 from by omega] at hr2 hs2 hb2
          have HS2 := Held.mk hs2
          have HB2 := Held.mk hb2
          clear hs2 hb2
          by_cases hA : 0 < k ∧ ci = 0
          · obtain ⟨hA1, rfl⟩ := hA
            go_wp2_with (go_at_call 47; refine (fail_any g q l bad _ (HR.out.fr (Fr.drewN (fun _ => False) _ _) id (fun _ => id))).mono ?_; rintro e w1 ⟨rfl, hr1, hf1⟩)
            go_ret
            obtain ⟨q1, q2, q3⟩ := none_num (most := x) bad (dec_nought (by omega) hkl2 hA1 (by have := HI.out; omega) HD.out)
            rw [q1, q2, q3]
            exact ⟨rfl, hr1, (Fr.drewN _ _ _).trans hf1⟩
          · have HA : Held (¬ (0 < k ∧ l[k].toNat = 0)) := ⟨fun h => hA ⟨h.1, by rw [HI.out, h.2]; rfl⟩⟩
            have hA2 : ¬ 0 < k ∨ (0 < k ∧ (ci == 0) = false) := by
              by_cases h : 0 < k
              · exact .inr ⟨h, beq_eq_false_iff_ne.2 fun e => hA ⟨h, e⟩⟩
              · exact .inl h
            clear hA
            by_cases hx0 : x < 0
            · by_cases hB : 0 < na
              · rcases hA2 with hA2 | ⟨hA2, hA3⟩
                · skip
                  go_wp2_with (go_at_call 47; refine (fail_any g q l bad _ (HR.out.fr (Fr.drewN (fun _ => False) _ _) id (fun _ => id))).mono ?_; rintro e w1 ⟨rfl, hr1, hf1⟩)
                  go_ret
                  obtain ⟨q1, q2, q3⟩ := none_num (most := x) bad (dec_big (by omega) hkl2 HC2.out HA.out (by have := HN2.out; omega) HD.out)
                  rw [q1, q2, q3]
                  exact ⟨rfl, hr1, (Fr.drewN _ _ _).trans hf1⟩
                · skip
                  go_wp2_with (go_at_call 47; refine (fail_any g q l bad _ (HR.out.fr (Fr.drewN (fun _ => False) _ _) id (fun _ => id))).mono ?_; rintro e w1 ⟨rfl, hr1, hf1⟩)
                  go_ret
                  obtain ⟨q1, q2, q3⟩ := none_num (most := x) bad (dec_big (by omega) hkl2 HC2.out HA.out (by have := HN2.out; omega) HD.out)
                  rw [q1, q2, q3]
                  exact ⟨rfl, hr1, (Fr.drewN _ _ _).trans hf1⟩
              · rcases hA2 with hA2 | ⟨hA2, hA3⟩
                · skip
                  go_wp2_with fail
                  go_ret
                  obtain ⟨q1, q2, q3⟩ := some_num (most := x) bad (dec_good (by omega) hkl2 HC2.out HA.out (by have := HN2.out; omega) HD.out)
                  rw [q1, q2, q3]
                  have hfr : Fr (· = g) (w.drewN nq) ((w.drewN nq).setCell ⟨g, 0, none⟩ (.slice a2 (l.length - (k + 1)) c2)) := Fr.setCell (S := (· = g)) _ (p := ⟨g, 0, none⟩) rfl _
                  have hdl : (l.drop (k + 1)).length = l.length - (k + 1) := List.length_drop
                  refine ⟨by rw [HN2.out]; rfl, ?_, (Fr.drewN _ _ _).trans hfr⟩
                  refine Rdr.moved (w := w.drewN nq) HG.out (Below.refl _ _) (by rw [hdl, ← bvs_drop]; exact HS2.out _ (HS.out.fr (Fr.drewN (fun _ => False) _ _) (fun _ _ _ _ => id))) (fun hp => ?_)
                  rw [HB2.out]; exact HN.out (by omega)
                · skip
                  go_wp2_with fail
                  go_ret
                  obtain ⟨q1, q2, q3⟩ := some_num (most := x) bad (dec_good (by omega) hkl2 HC2.out HA.out (by have := HN2.out; omega) HD.out)
                  rw [q1, q2, q3]
                  have hfr : Fr (· = g) (w.drewN nq) ((w.drewN nq).setCell ⟨g, 0, none⟩ (.slice a2 (l.length - (k + 1)) c2)) := Fr.setCell (S := (· = g)) _ (p := ⟨g, 0, none⟩) rfl _
                  have hdl : (l.drop (k + 1)).length = l.length - (k + 1) := List.length_drop
                  refine ⟨by rw [HN2.out]; rfl, ?_, (Fr.drewN _ _ _).trans hfr⟩
                  refine Rdr.moved (w := w.drewN nq) HG.out (Below.refl _ _) (by rw [hdl, ← bvs_drop]; exact HS2.out _ (HS.out.fr (Fr.drewN (fun _ => False) _ _) (fun _ _ _ _ => id))) (fun hp => ?_)
                  rw [HB2.out]; exact HN.out (by omega)
            · by_cases hB : x < na
              · rcases hA2 with hA2 | ⟨hA2, hA3⟩
                · skip
                  go_wp2_with (go_at_call 47; refine (fail_any g q l bad _ (HR.out.fr (Fr.drewN (fun _ => False) _ _) id (fun _ => id))).mono ?_; rintro e w1 ⟨rfl, hr1, hf1⟩)
                  go_ret
                  obtain ⟨q1, q2, q3⟩ := none_num (most := x) bad (dec_big (by omega) hkl2 HC2.out HA.out (by have := HN2.out; omega) HD.out)
                  rw [q1, q2, q3]
                  exact ⟨rfl, hr1, (Fr.drewN _ _ _).trans hf1⟩
                · skip
                  go_wp2_with (go_at_call 47; refine (fail_any g q l bad _ (HR.out.fr (Fr.drewN (fun _ => False) _ _) id (fun _ => id))).mono ?_; rintro e w1 ⟨rfl, hr1, hf1⟩)
                  go_ret
                  obtain ⟨q1, q2, q3⟩ := none_num (most := x) bad (dec_big (by omega) hkl2 HC2.out HA.out (by have := HN2.out; omega) HD.out)
                  rw [q1, q2, q3]
                  exact ⟨rfl, hr1, (Fr.drewN _ _ _).trans hf1⟩
              · rcases hA2 with hA2 | ⟨hA2, hA3⟩
                · skip
                  go_wp2_with fail
                  go_ret
                  obtain ⟨q1, q2, q3⟩ := some_num (most := x) bad (dec_good (by omega) hkl2 HC2.out HA.out (by have := HN2.out; omega) HD.out)
                  rw [q1, q2, q3]
                  have hfr : Fr (· = g) (w.drewN nq) ((w.drewN nq).setCell ⟨g, 0, none⟩ (.slice a2 (l.length - (k + 1)) c2)) := Fr.setCell (S := (· = g)) _ (p := ⟨g, 0, none⟩) rfl _
                  have hdl : (l.drop (k + 1)).length = l.length - (k + 1) := List.length_drop
                  refine ⟨by rw [HN2.out]; rfl, ?_, (Fr.drewN _ _ _).trans hfr⟩
                  refine Rdr.moved (w := w.drewN nq) HG.out (Below.refl _ _) (by rw [hdl, ← bvs_drop]; exact HS2.out _ (HS.out.fr (Fr.drewN (fun _ => False) _ _) (fun _ _ _ _ => id))) (fun hp => ?_)
                  rw [HB2.out]; exact HN.out (by omega)
                · skip
                  go_wp2_with fail
                  go_ret
                  obtain ⟨q1, q2, q3⟩ := some_num (most := x) bad (dec_good (by omega) hkl2 HC2.out HA.out (by have := HN2.out; omega) HD.out)
                  rw [q1, q2, q3]
                  have hfr : Fr (· = g) (w.drewN nq) ((w.drewN nq).setCell ⟨g, 0, none⟩ (.slice a2 (l.length - (k + 1)) c2)) := Fr.setCell (S := (· = g)) _ (p := ⟨g, 0, none⟩) rfl _
                  have hdl : (l.drop (k + 1)).length = l.length - (k + 1) := List.length_drop
                  refine ⟨by rw [HN2.out]; rfl, ?_, (Fr.drewN _ _ _).trans hfr⟩
                  refine Rdr.moved (w := w.drewN nq) HG.out (Below.refl _ _) (by rw [hdl, ← bvs_drop]; exact HS2.out _ (HS.out.fr (Fr.drewN (fun _ => False) _ _) (fun _ _ _ _ => id))) (fun hp => ?_)
                  rw [HB2.out]; exact HN.out (by omega)
        · have e1 : bits .and .u8 ci 128 = 128 := by rw [hci]; exact and128_ge _ (by omega) (by omega)
          have e2 : bits .andNot .u8 ci 128 = ci - 128 := by rw [hci, andNot128 _ (by omega)]; omega
          obtain ⟨na, hna⟩ : ∃ na : Int, na = ((an + (l[k].toNat - 128) * 128 ^ k : Nat) : Int) := ⟨_, rfl⟩
          have e3 : bits .or .i64 acc (wrap64 ((ci - 128) * 2 ^ (7 * k))) = na := by
            rw [han, hna, show ci - 128 = ((l[k].toNat - 128 : Nat) : Int) from by omega]; exact or_shl _ _ _ HLT.out (by omega) (by omega)
          rw [← hci] at hcell
          have HN2 := Held.mk hna
          have HC2 : Held (128 ≤ l[k].toNat ∧ l[k].toNat < 256) := ⟨by omega⟩
          clear hci hna han
          go_wp2_with fail
          go_round
          case rel =>
            refine ⟨k + 1, na, rfl, by go_num, by omega, by rw [HN2.out]; omega, ⟨?_⟩, ⟨?_⟩⟩
            · rw [HN2.out, Int.toNat_natCast, Nat.pow_succ]
              have := Nat.mul_le_mul_right (128 ^ k) (show l[k].toNat - 128 ≤ 127 by have := HC2.out; omega)
              have := HLT.out; omega
            · rw [HN2.out, Int.toNat_natCast]; exact decF_more (by omega) hkl2 HC2.out.1 HD.out
          case measure => simp [intOf]; omega
      · have hkk : Held (k = l.length ∨ k = 9) := ⟨by omega⟩
        clear han
        go_wp2_with (go_at_call 47; refine (fail_any g q l bad _ (HR.out.fr (Fr.drewN (fun _ => False) _ _) id (fun _ => id))).mono ?_; rintro e w1 ⟨rfl, hr1, hf1⟩)
        go_ret
        obtain ⟨q1, q2, q3⟩ := none_num (most := x) bad (dec_end hkk.out HD.out)
        rw [q1, q2, q3]
        exact ⟨rfl, hr1, (Fr.drewN _ _ _).trans hf1⟩
end Go.Proofs.Ytbhflfdlkiihgaa
