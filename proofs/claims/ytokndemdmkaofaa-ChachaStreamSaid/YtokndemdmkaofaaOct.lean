/- Walks of octet: bytes cloned, turned about, put on one another; numbers written and read. Conditions: lengths within memory. -/
import Derived.Test.YtokndemdmkaofaaPlainOct
import Derived.Test.YtokndemdmkaofaaInfo
import Derived.Deep.DeepMust
import Derived.Test.YtokndemdmkaofaaQt
import Derived.RegionTactic
import Derived.BigRegion
namespace Go.Bx
open Go Go.RowKit
/-- One cell of an own slice written. -/
theorem Own.set {w : World} {B : Nat} {g o n cap : Nat} {l : List UInt8} (h : Own w B 1 (.slice (some ⟨g, o, none⟩) n cap) n (bvs l)) (i : Nat) (hi : i < n) (b : UInt8) :
    Own (w.setCell ⟨g, o + i, none⟩ (bv b)) B 1 (.slice (some ⟨g, o, none⟩) n cap) n (bvs (l.set i b)) := by
  obtain ⟨hl, ⟨rfl, _⟩ | ⟨g', o', cap', he, hb, hg, hn, hm, hc, hs, hz⟩⟩ := h
  · omega
  · cases he
    rw [bvs_length] at hl
    have hex := hs i (by omega)
    have hc' : ∀ j, (w.setCell ⟨g, o + i, none⟩ (bv b)).cell? ⟨g, o + j, none⟩ = if j = i then some (bv b) else w.cell? ⟨g, o + j, none⟩ := by
      intro j
      by_cases e : j = i
      · subst e; rw [if_pos rfl]; exact World.cell?_setCell_same' _ _ _ hex
      · rw [if_neg e]; exact World.cell?_setCell_other _ _ _ _ (show (⟨g, o + i, none⟩ : Addr) ≠ ⟨g, o + j, none⟩ from fun h => by injection h; omega)
    refine ⟨by rw [bvs_length, List.length_set]; exact hl, .inr ⟨g, o, cap, rfl, hb, by simpa [World.setCell] using hg, hn, hm, fun j u hj => ?_, fun j hj => ?_, fun j hj => ?_⟩⟩
    · rw [hc' j]
      by_cases e : j = i
      · subst e
        rw [if_pos rfl]
        have : j < l.length := by omega
        simpa [bvs, List.getElem?_set, this] using hj
      · rw [if_neg e]
        refine hc j u ?_
        rw [← hj]; simp [bvs, Ne.symm e]
    · rw [hc' j]; split
      · rfl
      · exact hs j hj
    · rw [World.frozen?_setCell]; exact hz j hj
end Go.Bx
namespace Go.Proofs.Ytokndemdmkaofaa
open Go.RowKit Go.Bx

set_option maxHeartbeats 400000 in
theorem sclone_nil (w : World) :
    Calls Try.prog 56 #[.slice none 0 0] w fun e w' => ∃ r, e = .returned r ∧ Own w' w.heap.size 1 r 0 [] ∧ Below w.heap.size w w' := by
  have H := @Lib.run_eql_slice_nil Try.prog
  go_enter Try.func56, Try.ntmps56
  go_wp2
  go_ret
  exact ⟨_, rfl, Own.nil _ _ _, Below.refl _ _⟩
set_option maxHeartbeats 400000 in
theorem sclone_some (ad : Addr) (n cap : Nat) (l : List UInt8) (w : World) (h : Sl w 1 (.slice (some ad) n cap) n (bvs l)) (hn : Fits n) :
    Calls Try.prog 56 #[.slice (some ad) n cap] w fun e w' => ∃ r, e = .returned r ∧ Own w' w.heap.size 1 r n (bvs l) ∧ Below w.heap.size w w' := by
  have H := @Lib.run_eql_slice_nil Try.prog
  obtain ⟨i0, hi, hz0, hz1, hz2⟩ := info_parts infoB
  have HS := Held.mk h
  clear h
  go_enter Try.func56, Try.ntmps56
  go_wp2_with (at_builtin; go_must (refine wpList_append rfl _ _ 28 28 rfl (Own.zero _ w.heap.size 1 _ _) rfl 5 i0 (.int .u8 0) 1 Try.underlying28 hi hz0 hz1 hz2 rfl (by decide) rfl ((HS.out.grow ?b).src (bvs_one _) Try.underlying28) ?c1 ?c2 ?c3 ?_); exact (Below.refl _ _).alloc (Nat.le_refl _) _; rw [Nat.zero_add]; exact hn.max; rw [Nat.zero_add]; exact hn.mul; simp; intro v' w1 hown1 hfr hob)
  go_ret
  rw [Nat.zero_add] at hown1
  exact ⟨_, rfl, hown1, ((Below.refl _ _).alloc (Nat.le_refl _) _).trans (hfr.own (by simp))⟩
/-- slices.Clone of bytes: a slice of the call's own that reads as what came in. -/
theorem sclone_any (v : Value) (n : Nat) (l : List UInt8) (w : World) (h : Sl w 1 v n (bvs l)) (hn : Fits n) :
    Calls Try.prog 56 #[v] w fun e w' => ∃ r, e = .returned r ∧ Own w' w.heap.size 1 r n (bvs l) ∧ Below w.heap.size w w' := by
  obtain ⟨hl, a, cap, rfl, hc, hm, h0, h1⟩ := id h
  rcases a with _ | ad
  · obtain rfl := h0 rfl
    obtain rfl : n = 0 := by omega
    obtain rfl : l = [] := by simpa [bvs] using hl
    exact sclone_nil w
  · exact sclone_some ad n cap l w h hn
structure RevRel (w : World) (B g o cap n : Nat) (l : List UInt8) (i j : Value) (wr : World) : Prop where
  ex : ∃ (k : Nat) (m : List UInt8), i = .int .i64 k ∧ j = .int .i64 ((n : Int) - 1 - k) ∧ 2 * k ≤ n ∧ m.length = n ∧ (∀ p, p < n → m[p]? = if p < k ∨ n - k ≤ p then l[n - 1 - p]? else l[p]?) ∧
    Own wr B 1 (.slice (some ⟨g, o, none⟩) n cap) n (bvs m) ∧ Fr (· = g) w wr
set_option maxHeartbeats 1000000 in
theorem reverse_any (B g o cap n : Nat) (l : List UInt8) (w : World) (hl : l.length = n) (hn : Fits n) (h : Own w B 1 (.slice (some ⟨g, o, none⟩) n cap) n (bvs l)) :
    Calls Try.prog 67 #[.slice (some ⟨g, o, none⟩) n cap] w fun e w' => (∃ v, e = .returned v) ∧ Own w' B 1 (.slice (some ⟨g, o, none⟩) n cap) n (bvs l.reverse) ∧ Fr (· = g) w w' := by
  have HO := Held.mk h
  have HL := Held.mk hl
  have hnb := hn.ok
  have HN := Held.mk hnb
  have hw1 : wrap64 ((n : Int) - 1) = (n : Int) - 1 := by unfold wrap64; omega
  clear h hl hnb
  go_enter Try.func67, Try.ntmps67
  go_wp2
  go_loopw [2, 3] (fun i j wr => RevRel w B g o cap n l i j wr) (fun i _ _ => n - (intOf i).toNat)
  case atStart => exact ⟨⟨0, l, rfl, by simp [hw1], by omega, HL.out, fun p hp => by simp; intro h; omega, HO.out, Fr.refl _ _⟩⟩
  case round =>
    obtain ⟨k, m, rfl, rfl, hk, hm, hp, ho, hf⟩ := hrel.ex
    have HP := Held.mk hp
    have HM := Held.mk hm
    have HO2 := Held.mk ho
    have HF := Held.mk hf
    clear hm hp ho hf hrel
    by_cases hlt : (k : Int) < (n : Int) - 1 - k
    · obtain ⟨q, hq⟩ : ∃ q : Nat, (n : Int) - 1 - k = q := ⟨n - 1 - k, by omega⟩
      rw [hq] at hlt ⊢
      have HQ := Held.mk hq
      clear hq
      have hq2 : q < n := by have := HQ.out; omega
      have hk2 : k < n := by have := HQ.out; omega
      obtain ⟨bk, hbk⟩ : ∃ b, m[k]? = some b := ⟨_, List.getElem?_eq_getElem (by rw [HM.out]; exact hk2)⟩
      obtain ⟨bq, hbq⟩ : ∃ b, m[q]? = some b := ⟨_, List.getElem?_eq_getElem (by rw [HM.out]; exact hq2)⟩
      obtain ⟨x, hx⟩ : ∃ x : Int, x = bk.toNat := ⟨_, rfl⟩
      obtain ⟨y, hy⟩ : ∃ y : Int, y = bq.toNat := ⟨_, rfl⟩
      obtain ⟨_, ⟨h0, _⟩ | ⟨g', o', cap', he, hb, hg, hnc, hcm, hc, hs, hz⟩⟩ := id HO2.out
      · omega
      cases he
      have c1 : wr.cell? ⟨g, o + k, none⟩ = some (.int .u8 x) := by rw [hx]; exact hc k _ (by simp [bvs, bv, hbk])
      have c2 : wr.cell? ⟨g, o + q, none⟩ = some (.int .u8 y) := by rw [hy]; exact hc q _ (by simp [bvs, bv, hbq])
      have f1 : wr.frozen? ⟨g, o + k, none⟩ = false := hz k (by omega)
      have f2 : wr.frozen? ⟨g, o + q, none⟩ = false := hz q (by omega)
      have HX := Held.mk hx
      have HY := Held.mk hy
      have HBK := Held.mk hbk
      have HBQ := Held.mk hbq
      have hkq : k ≠ q := by omega
      clear hx hy hc hs hz hb hg hnc hcm hbk hbq
      have hnb := HN.out
      go_wp2
      go_region
      go_wp2
      go_roundw
      case rel =>
        have ho2 := (HO2.out.set k hk2 bq).set q hq2 bk
        have hm := HM.out
        have hq := HQ.out
        clear hw1
        refine ⟨⟨k + 1, (m.set k bq).set q bk, by push_cast; rfl, ?_, by omega, by simp [hm], ?_, ?_, ?_⟩⟩
        · congr 1; push_cast; omega
        · intro p hp
          have hk' := HP.out k hk2
          have hq' := HP.out q hq2
          rw [if_neg (by omega), HBK.out] at hk'
          rw [if_neg (by omega), HBQ.out] at hq'
          rw [List.getElem?_set, List.getElem?_set, List.length_set, hm]
          by_cases h1 : q = p
          · subst h1
            rw [if_pos rfl, if_pos hq2, if_pos (by omega), show n - 1 - q = k from by omega]; exact hk'
          · rw [if_neg h1]
            by_cases h2 : k = p
            · subst h2
              rw [if_pos rfl, if_pos hk2, if_pos (by omega), show n - 1 - k = q from by omega]; exact hq'
            · rw [if_neg h2, HP.out p hp]
              by_cases h3 : p < k ∨ n - k ≤ p
              · rw [if_pos h3, if_pos (by omega)]
              · rw [if_neg h3, if_neg (by omega)]
        · rw [bv, bv, ← HX.out, ← HY.out] at ho2
          exact ho2.fr (Fr.drew (fun _ => False) _) (fun _ _ _ => id)
        · exact HF.out.trans (((Fr.setCell (S := (· = g)) wr rfl _).trans (Fr.setCell (S := (· = g)) _ rfl _)).trans (Fr.drew _ _))
      case measure => clear hw1; simp [intOf]; omega
    · have hlt2 : (n : Int) - 1 - k ≤ k := by omega
      go_wp2
      go_end0
      have e : m = l.reverse := by
        apply List.ext_getElem?
        intro p
        by_cases h : p < n
        · rw [HP.out p h]
          have := HL.out
          by_cases h2 : p < k ∨ n - k ≤ p
          · rw [if_pos h2, List.getElem?_reverse (by omega), HL.out]
          · rw [if_neg h2, List.getElem?_reverse (by omega), HL.out]
            congr 1; omega
        · rw [List.getElem?_eq_none (by rw [HM.out]; omega), List.getElem?_eq_none (by rw [List.length_reverse, HL.out]; omega)]
      rw [← e]
      exact ⟨⟨_, rfl⟩, HO2.out, HF.out⟩
set_option maxHeartbeats 1000000 in
theorem reverse_zero (a : Option Addr) (w : World) :
    Calls Try.prog 67 #[.slice a 0 0] w fun e w' => (∃ v, e = .returned v) ∧ w' = w := by
  go_enter Try.func67, Try.ntmps67
  go_wp2
  go_loopw [2, 3] (fun i j wr => i = .int .i64 0 ∧ j = .int .i64 (-1) ∧ wr = w) (fun _ _ _ => 0)
  case atStart => exact ⟨rfl, rfl, rfl⟩
  case round =>
    obtain ⟨rfl, rfl, rfl⟩ := hrel
    go_wp2
    go_end0
    exact ⟨⟨_, rfl⟩, rfl⟩
/-- slices.Reverse of bytes of the call's own. -/
theorem reverse_own (B : Nat) (v : Value) (n : Nat) (l : List UInt8) (w : World) (hl : l.length = n) (hn : Fits n) (h : Own w B 1 v n (bvs l)) :
    Calls Try.prog 67 #[v] w fun e w' => (∃ r, e = .returned r) ∧ Own w' B 1 v n (bvs l.reverse) ∧ Fr (fun k => B ≤ k ∧ v.ownBlock = some k) w w' := by
  obtain ⟨hl', ⟨rfl, a, rfl⟩ | ⟨g, o, cap, rfl, hb, r⟩⟩ := id h
  · refine (reverse_zero a w).mono ?_
    rintro e w' ⟨he, rfl⟩
    obtain rfl : l = [] := List.eq_nil_of_length_eq_zero hl
    exact ⟨he, h, Fr.refl _ _⟩
  · refine (reverse_any B g o cap n l w hl hn h).mono ?_
    rintro e w' ⟨he, ho, hf⟩
    exact ⟨he, ho, hf.mono fun i _ hi => ⟨by omega, by rw [hi]; rfl⟩⟩
set_option maxHeartbeats 400000 in
/-- octet.Turn. -/
theorem turn_any (v : Value) (l : List UInt8) (w : World) (h : Sl w 1 v l.length (bvs l)) (hn : Fits l.length) :
    Calls Try.prog 66 #[v] w fun e w' => ∃ r, e = .returned r ∧ Own w' w.heap.size 1 r l.length (bvs l.reverse) ∧ Below w.heap.size w w' := by
  have HS := Held.mk h
  clear h
  go_enter Try.func66, Try.ntmps66
  go_wp2_with (first | (go_at_call 56; refine (sclone_any _ _ l _ HS.out hn).mono ?_; rintro e w1 ⟨r, rfl, hown1, hb1⟩; have HO := Held.mk hown1; clear hown1) | (go_at_call 67; refine (reverse_own _ _ _ l _ rfl hn HO.out).mono ?_; rintro e w2 ⟨⟨_, rfl⟩, hown2, hf2⟩))
  go_ret
  exact ⟨_, rfl, hown2, hb1.trans (hf2.own hb1.size)⟩
end Go.Proofs.Ytokndemdmkaofaa
