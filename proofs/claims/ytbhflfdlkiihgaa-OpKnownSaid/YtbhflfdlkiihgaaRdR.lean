/- Walks of the paper's own reader: numbers read, the end; numbers of devices written and read. Conditions: lengths within memory. -/
import Derived.Test.YtbhflfdlkiihgaaVecD
import Derived.Test.YtbhflfdlkiihgaaWireR
namespace Go.Proofs.Ytbhflfdlkiihgaa
open Go.RowKit Go.Bx

/-- The paper's reader at block g has the bytes l before it; all its bytes lie in block q. -/
structure R7 (G : Value × TypeId × List UInt8) (w : World) (g q p : Nat) (l : List UInt8) (bad : Bool) : Prop where
  ex : ∃ sv t L, (sv, t, L) = G ∧ w.heap[g]? = some (.cells #[sv, .int .i64 ((p : Nat) : Int), .bool bad] t (0, 0)) ∧ Sl w 1 sv L.length (bvs L) ∧ (0 < L.length → sv.ownBlock = some q ∧ q ≠ g) ∧ p ≤ L.length ∧ (bad = false → L.drop p = l) ∧ (bad = true → l = []) ∧ L.length < 4611686018427387904
section
variable {G : Value × TypeId × List UInt8} {w w' : World} {g q p : Nat} {l : List UInt8} {bad : Bool}
theorem R7.lt (h : R7 G w g q p l bad) : g < w.heap.size := by
  obtain ⟨sv, t, L, _, hg, _⟩ := h.ex
  exact (Array.getElem?_eq_some_iff.1 hg).1
theorem R7.blk (h : R7 G w g q p l bad) (hl : 0 < l.length) : q < w.heap.size := by
  obtain ⟨sv, t, L, _, hg, hs, hq, hp, h1, h2, _⟩ := h.ex
  have : 0 < L.length := by
    cases bad
    · have := h1 rfl; rw [← this, List.length_drop] at hl; omega
    · have := h2 rfl; rw [this] at hl; simp at hl
  exact hs.blk this (hq this).1
theorem R7.fr {S : Nat → Prop} (h : R7 G w g q p l bad) (hf : Fr S w w') (hS : ¬ S g) (hq : ¬ S q) : R7 G w' g q p l bad := by
  obtain ⟨sv, t, L, hG, hg, hs, hne, h1⟩ := id h.ex
  exact ⟨sv, t, L, hG, by rw [hf.block g h.lt hS]; exact hg, hs.fr hf (fun hp k _ hk => by rw [(hne hp).1] at hk; cases hk; exact hq), hne, h1⟩
theorem R7.grow (h : R7 G w g q p l bad) (hf : Below w.heap.size w w') : R7 G w' g q p l bad := by
  obtain ⟨sv, t, L, hG, hg, hs, hne, h1⟩ := id h.ex
  exact ⟨sv, t, L, hG, by rw [hf.block g h.lt]; exact hg, hs.grow hf, hne, h1⟩
end
/-- Where the reader stands: what is left tells it, unless it went wrong. -/
def atP (G : Value × TypeId × List UInt8) (p : Nat) (l : List UInt8) (bad : Bool) : Nat := cond bad p (G.2.2.length - l.length)
theorem or_shl127 (an k : Nat) (ci : Int) (c : Nat) (hc : ci = (c : Int)) (hlt : an < 128 ^ k) (hk : k ≤ 8) (hc2 : c < 256) :
    bits .or .i64 (an : Int) (wrap64 (bits .and .u8 ci 127 * 2 ^ (7 * k))) = ((an + (c % 128) * 128 ^ k : Nat) : Int) := by
  have e : bits .and .u8 ci 127 = ((c % 128 : Nat) : Int) := by
    rw [hc, show (127 : Int) = ((127 : Nat) : Int) from rfl, u8_and_nat _ _ (by omega) (by omega)]
    have : ∀ a : Fin 256, a.val &&& 127 = a.val % 128 := by decide +kernel
    have := this ⟨c, hc2⟩
    simp only at this
    rw [this]
  rw [e]; exact or_shl _ _ _ hlt (by omega) hk
theorem or_shl127' (an k : Nat) (ci : Int) (c : Nat) (hc : ci = (c : Int)) (hlt : an < 128 ^ k) (hk : k ≤ 8) (hc2 : c < 256) :
    bits .or .i64 (an : Int) (wrap64 (wrap64 (bits .and .u8 ci 127) * 2 ^ (7 * k))) = ((an + (c % 128) * 128 ^ k : Nat) : Int) := by
  have e : bits .and .u8 ci 127 = ((c % 128 : Nat) : Int) := by
    rw [hc, show (127 : Int) = ((127 : Nat) : Int) from rfl, u8_and_nat _ _ (by omega) (by omega)]
    have : ∀ a : Fin 256, a.val &&& 127 = a.val % 128 := by decide +kernel
    have := this ⟨c, hc2⟩
    simp only at this
    rw [this]
  have e2 : wrap64 (((c % 128 : Nat) : Int)) = ((c % 128 : Nat) : Int) := by simp only [wrap64]; omega
  rw [← or_shl127 an k ci c hc hlt hk hc2, e, e2]
set_option maxHeartbeats 4000000 in
theorem num7_any (G : Value × TypeId × List UInt8) (g q p : Nat) (l : List UInt8) (bad : Bool) (x : Int) (hx0 : 0 ≤ x) (w : World) (h : R7 G w g q p l bad) :
    Calls Try.prog 33 #[.pointer (some ⟨g, 0, none⟩), .int .i64 x] w fun e w' => e = .returned (.int .i64 (numV x l)) ∧ R7 G w' g q (atP G p (numL x l) (numB x l bad)) (numL x l) (numB x l bad) ∧ Fr (· = g) w w' := by
  obtain ⟨sv, t, L, rfl, hg, hs, hne, hp, hb0, hb1, hL⟩ := h.ex
  obtain ⟨a, c, rfl⟩ := hs.form
  have c0 : w.cell? ⟨g, 0, none⟩ = some (.slice a L.length c) := by rw [cell_of_row w g 0 _ _ _ hg]; rfl
  have c1 : w.cell? ⟨g, 1, none⟩ = some (.int .i64 (p : Int)) := by rw [cell_of_row w g 1 _ _ _ hg]; rfl
  have c2 : w.cell? ⟨g, 2, none⟩ = some (.bool bad) := by rw [cell_of_row w g 2 _ _ _ hg]; rfl
  have f1 : w.frozen? ⟨g, 1, none⟩ = false := frozen_of_row w g 1 _ _ hg
  have f2 : w.frozen? ⟨g, 2, none⟩ = false := frozen_of_row w g 2 _ _ hg
  have HR := Held.mk h
  have HS := Held.mk hs
  have HG := Held.mk hg
  have HN := Held.mk hne
  have HP := Held.mk hp
  have HL := Held.mk hL
  -- what is left when it goes wrong
  have fin0 : ∀ (W : World), W.heap[g]? = some (.cells #[.slice a L.length c, .int .i64 (p : Int), .bool bad] t (0, 0)) → (∃ n, W = w.drewN n) → R7 (.slice a L.length c, t, L) (W.setCell ⟨g, 2, none⟩ (.bool true)) g q p [] true ∧ Fr (· = g) w (W.setCell ⟨g, 2, none⟩ (.bool true)) := by
    rintro W hW ⟨n, rfl⟩
    have hfr : Fr (· = g) (w.drewN n) ((w.drewN n).setCell ⟨g, 2, none⟩ (.bool true)) := Fr.setCell (S := (· = g)) _ (p := ⟨g, 2, none⟩) rfl _
    refine ⟨⟨_, _, L, rfl, heap_setCell_same _ _ _ _ _ _ hW, ?_, HN.out, HP.out, (by intro h; cases h), fun _ => rfl, HL.out⟩, (Fr.drewN _ _ _).trans hfr⟩
    exact HS.out.fr ((Fr.drewN (· = g) w n).trans hfr) (fun hp k _ hk e => by rw [(HN.out hp).1] at hk; cases hk; exact (HN.out hp).2 e)
  have FIN := Held.mk fin0
  clear hg hs h hne fin0 hp hL
  cases bad
  · have hl : L.drop p = l := hb0 rfl
    have HLL := Held.mk hl
    have hlen : l.length = L.length - p := by rw [← hl, List.length_drop]
    have HLE := Held.mk hlen
    clear hb0 hb1 hl hlen
    go_enter Try.func33, Try.ntmps33
    go_wp2
    go_loopw [5, 6, 7] (fun v i c wr => ∃ (k n : Nat) (acc : Int), v = .int .i64 acc ∧ i = .int .i64 k ∧ k ≤ 9 ∧ p + k ≤ L.length ∧ 0 ≤ acc ∧ Held (acc.toNat < 128 ^ k) ∧ Held (decF 9 0 0 l = decF (9 - k) k acc.toNat (l.drop k)) ∧ wr = w.drewN n) (fun _ i _ _ => 9 - (intOf i).toNat)
    case atStart => exact ⟨0, 0, 0, rfl, rfl, by omega, by have := HP.out; omega, by omega, ⟨by decide⟩, ⟨rfl⟩, rfl⟩
    case round =>
      obtain ⟨k, n, acc, rfl, rfl, hk, hpk, ha0, hlt, hdec, rfl⟩ := hrel
      obtain ⟨an, han⟩ : ∃ an : Nat, acc = (an : Int) := ⟨acc.toNat, by omega⟩
      have HD : Held (decF 9 0 0 l = decF (9 - k) k an (l.drop k)) := by have := hdec.out; rw [han] at this; exact ⟨by simpa using this⟩
      have HLT : Held (an < 128 ^ k) := by have := hlt.out; rw [han] at this; exact ⟨by simpa using this⟩
      have hL2 := HL.out
      obtain ⟨m, hm⟩ : ∃ m : Nat, m = p + k := ⟨_, rfl⟩
      have hmi : (p : Int) + (k : Int) = (m : Int) := by omega
      have HM := Held.mk hm
      have hmL : m ≤ L.length := by omega
      clear hdec hlt hpk hm
      by_cases hkl : m < L.length ∧ k < 9
      · obtain ⟨hk1, hk2⟩ := hkl
        have hwm : IntKind.i64.wrap (m : Int) = (m : Int) := by rw [IntKind.wrap_i64]; omega
        have hlt1 : ¬ ((L.length : Int) ≤ (m : Int)) := by omega
        have hw7 : IntKind.u64.wrap (7 * (k : Int)) = 7 * (k : Int) := by rw [IntKind.wrap_u64]; omega
        have hk9 : ¬ ((9 : Int) ≤ (k : Int)) := by omega
        have hs1 := HS.out
        obtain ⟨_, _, _, hfm, _, _, _, hs1⟩ := hs1
        cases hfm
        rcases hs1 with hz | ⟨g1, o1, rfl, hg1, hc1⟩
        · omega
        have hkl2 : k < l.length := by have := HLE.out; have := HM.out; omega
        have hlk : L[m] = l[k] := by
          have e := HLL.out
          have hm := HM.out
          subst hm
          simp [← e]
        have hcell : w.cell? ⟨g1, o1 + m, none⟩ = some (.int .u8 (l[k].toNat : Int)) := hc1 m _ (by simp [bvs, bv, hk1, hlk])
        obtain ⟨ci, hci⟩ : ∃ ci : Int, ci = (l[k].toNat : Int) := ⟨_, rfl⟩
        have hci0 : 0 ≤ ci := by omega
        have hci1 : ci ≤ 255 := by have := l[k].toNat_lt; omega
        obtain ⟨na, hna⟩ : ∃ na : Int, na = ((an + l[k].toNat % 128 * 128 ^ k : Nat) : Int) := ⟨_, rfl⟩
        have e3 : bits .or .i64 acc (wrap64 (wrap64 (bits .and .u8 ci 127) * 2 ^ (7 * k))) = na := by rw [han, hna]; exact or_shl127' an k ci l[k].toNat hci HLT.out (by omega) (by omega)
        rw [← hci] at hcell
        have HI := Held.mk hci
        have HN2 := Held.mk hna
        have HHC := Held.mk hc1
        clear hci hna han hc1 hlk
        have HC3 : Held (ci < 128 → l[k].toNat < 128) := ⟨fun h => by have := HI.out; omega⟩
        have hkk2 : Held (k < 9) := ⟨hk2⟩
        have hm1 : IntKind.i64.wrap ((m : Int) + 1) = (m : Int) + 1 := by rw [IntKind.wrap_i64]; omega
        have GD : ∀ N, Held (ci < 128 → ¬ (0 < k ∧ l[k].toNat = 0) → na ≤ x → Value.int .i64 na = Value.int .i64 (numV x l) ∧ R7 (.slice (some ⟨g1, o1, none⟩) L.length c, t, L) ((w.drewN N).setCell ⟨g, 1, none⟩ (.int .i64 ((m : Int) + 1))) g q (atP (.slice (some ⟨g1, o1, none⟩) L.length c, t, L) p (numL x l) (numB x l false)) (numL x l) (numB x l false) ∧ Fr (· = g) w ((w.drewN N).setCell ⟨g, 1, none⟩ (.int .i64 ((m : Int) + 1)))) := fun N => ⟨fun c1 c2 c3 => by
          have hv := HC3.out c1
          have hn2 := HN2.out
          have e0 : l[k].toNat % 128 = l[k].toNat := Nat.mod_eq_of_lt hv
          rw [e0] at hn2
          obtain ⟨q1, q2, q3⟩ := some_num (most := x) false (dec_good (by omega) hkl2 hv c2 (by omega) HD.out)
          rw [q1, q2, q3]
          have hfr : Fr (· = g) (w.drewN N) ((w.drewN N).setCell ⟨g, 1, none⟩ (.int .i64 ((m : Int) + 1))) := Fr.setCell (S := (· = g)) _ (p := ⟨g, 1, none⟩) rfl _
          have hM := HM.out
          have e1 : ((m : Int) + 1) = ((p + (k + 1) : Nat) : Int) := by omega
          have e2 : atP (.slice (some ⟨g1, o1, none⟩) L.length c, t, L) p (l.drop (k + 1)) false = p + (k + 1) := by
            have h1 := HLE.out
            show L.length - (l.drop (k + 1)).length = _
            rw [List.length_drop]; omega
          rw [e2]
          refine ⟨by rw [hn2], ⟨_, t, L, rfl, ?_, ?_, HN.out, by omega, fun _ => ?_, (by intro h; cases h), HL.out⟩, (Fr.drewN _ _ _).trans hfr⟩
          · rw [← e1]; exact heap_setCell_same _ _ _ _ _ _ (show (w.drewN N).heap[g]? = _ from HG.out)
          · exact HS.out.fr ((Fr.drewN (· = g) w N).trans hfr) (fun hp k _ hk e => by rw [(HN.out hp).1] at hk; cases hk; exact (HN.out hp).2 e)
          · rw [← List.drop_drop, HLL.out]⟩
        by_cases hc : ci < 128
        · have HCC := Held.mk hc
          by_cases hz0 : ci = 0
          · have hz : (ci == 0) = true := by rw [hz0]; rfl
            have HZl : Held (l[k].toNat = 0) := ⟨by have := HI.out; omega⟩
            clear hz0
            by_cases hk0 : 0 < k
            · have HK0 := Held.mk hk0
              go_wp2_with fail
              go_quiet (fail)
              go_wp2_with fail
              go_quiet (fail)
              go_wp2_with fail
              go_ret
              obtain ⟨q1, q2, q3⟩ := none_num (most := x) false (dec_nought (hkk2.out) hkl2 HK0.out HZl.out HD.out)
              rw [q1, q2, q3]
              obtain ⟨r1, r2⟩ := FIN.out (w.drewN _) HG.out ⟨_, rfl⟩
              exact ⟨rfl, r1, r2⟩
            · have HK0 := Held.mk hk0
              by_cases hB : x < na
              · have HB := Held.mk hB
                go_wp2_with fail
                go_quiet (fail)
                go_wp2_with fail
                go_quiet (fail)
                go_wp2_with fail
                go_ret
                obtain ⟨q1, q2, q3⟩ := none_num (most := x) false (dec_big (hkk2.out) hkl2 (HC3.out HCC.out) (fun h => HK0.out h.1) (by have h1 := HN2.out; have h2 := HB.out; have h3 := Nat.mod_eq_of_lt (HC3.out HCC.out); rw [h3] at h1; omega) HD.out)
                rw [q1, q2, q3]
                obtain ⟨r1, r2⟩ := FIN.out (w.drewN _) HG.out ⟨_, rfl⟩
                exact ⟨rfl, r1, r2⟩
              · have HB := Held.mk hB
                go_wp2_with fail
                go_quiet (fail)
                go_wp2_with fail
                go_quiet (fail)
                go_wp2_with fail
                go_ret
                exact ⟨congrArg Ending.returned ((GD 0).out HCC.out (fun h => HK0.out h.1) (by have := HB.out; omega)).1, ((GD _).out HCC.out (fun h => HK0.out h.1) (by have := HB.out; omega)).2⟩
          · have hz : (ci == 0) = false := beq_eq_false_iff_ne.2 hz0
            have HZl : Held (¬ (0 < k ∧ l[k].toNat = 0)) := ⟨fun h => hz0 (by have := HI.out; omega)⟩
            clear hz0
            by_cases hB : x < na
            · have HB := Held.mk hB
              go_wp2_with fail
              go_quiet (fail)
              go_wp2_with fail
              go_quiet (fail)
              go_wp2_with fail
              go_ret
              obtain ⟨q1, q2, q3⟩ := none_num (most := x) false (dec_big (hkk2.out) hkl2 (HC3.out HCC.out) HZl.out (by have h1 := HN2.out; have h2 := HB.out; have h3 := Nat.mod_eq_of_lt (HC3.out HCC.out); rw [h3] at h1; omega) HD.out)
              rw [q1, q2, q3]
              obtain ⟨r1, r2⟩ := FIN.out (w.drewN _) HG.out ⟨_, rfl⟩
              exact ⟨rfl, r1, r2⟩
            · have HB := Held.mk hB
              go_wp2_with fail
              go_quiet (fail)
              go_wp2_with fail
              go_quiet (fail)
              go_wp2_with fail
              go_ret
              exact ⟨congrArg Ending.returned ((GD 0).out HCC.out HZl.out (by have := HB.out; omega)).1, ((GD _).out HCC.out HZl.out (by have := HB.out; omega)).2⟩
        · go_wp2_with fail
          go_quiet (fail)
          go_wp2_with fail
          go_quiet (fail)
          go_wp2_with fail
          go_roundw
          case rel =>
            have h1 := HN2.out
            have h2 := HI.out
            have h4 := l[k].toNat_lt
            have h5 : l[k].toNat % 128 = l[k].toNat - 128 := by omega
            have h6 := HM.out
            rw [h5] at h1
            refine ⟨k + 1, _, na, rfl, by push_cast; rfl, by omega, by omega, by omega, ⟨?_⟩, ⟨?_⟩, rfl⟩
            · rw [h1, Int.toNat_natCast, Nat.pow_succ]
              have := Nat.mul_le_mul_right (128 ^ k) (show l[k].toNat - 128 ≤ 127 by omega)
              have := HLT.out; omega
            · rw [h1, Int.toNat_natCast]; exact decF_more (by omega) hkl2 (by omega) HD.out
          case measure => simp [intOf]; omega
      · have hkk : Held (k = l.length ∨ k = 9) := ⟨by have := HLE.out; have := HM.out; omega⟩
        have hwm : IntKind.i64.wrap (m : Int) = (m : Int) := by rw [IntKind.wrap_i64]; omega
        by_cases hml : m < L.length
        · have hlt1 : ¬ ((L.length : Int) ≤ (m : Int)) := by omega
          have hk9 : (9 : Int) ≤ (k : Int) := by omega
          clear han hkl
          go_wp2_with fail
          go_quiet (fail)
          go_wp2_with fail
          go_ret
          obtain ⟨q1, q2, q3⟩ := none_num (most := x) false (dec_end hkk.out HD.out)
          rw [q1, q2, q3]
          obtain ⟨r1, r2⟩ := FIN.out (w.drewN _) HG.out ⟨_, rfl⟩
          exact ⟨rfl, r1, r2⟩
        · have hlt1 : (L.length : Int) ≤ (m : Int) := by omega
          clear han hkl
          go_wp2_with fail
          go_quiet (fail)
          go_wp2_with fail
          go_ret
          obtain ⟨q1, q2, q3⟩ := none_num (most := x) false (dec_end hkk.out HD.out)
          rw [q1, q2, q3]
          obtain ⟨r1, r2⟩ := FIN.out (w.drewN _) HG.out ⟨_, rfl⟩
          exact ⟨rfl, r1, r2⟩
  · obtain rfl : l = [] := hb1 rfl
    clear hb0 hb1
    go_enter Try.func33, Try.ntmps33
    go_wp2
    go_loopw [5, 6, 7] (fun v i c wr => i = .int .i64 0 ∧ wr = w) (fun _ _ _ _ => 0)
    case atStart => exact ⟨rfl, rfl⟩
    case round =>
      obtain ⟨rfl, rfl⟩ := hrel
      go_wp2
      go_ret
      obtain ⟨q1, q2, q3⟩ := none_num (most := x) (l := []) true rfl
      rw [q1, q2, q3]
      obtain ⟨r1, r2⟩ := FIN.out _ HG.out ⟨0, rfl⟩
      exact ⟨rfl, r1, r2⟩
theorem bad7 {G : Value × TypeId × List UInt8} {w : World} {g q p : Nat} {l : List UInt8} {bad : Bool} (h : R7 G w g q p l bad) : w.cell? ⟨g, 2, none⟩ = some (.bool bad) := by
  obtain ⟨sv, t, L, _, hg, _⟩ := h.ex
  rw [cell_of_row w g 2 _ _ _ hg]; rfl
set_option maxHeartbeats 400000 in
theorem end7_any (G : Value × TypeId × List UInt8) (g q p : Nat) (l : List UInt8) (bad : Bool) (w : World) (h : R7 G w g q p l bad) :
    Calls Try.prog 36 #[.pointer (some ⟨g, 0, none⟩)] w fun e w' => e = .returned (.bool (!bad && l.isEmpty)) ∧ ∃ n, w' = w.drewN n := by
  obtain ⟨sv, t, L, rfl, hg, hs, hne, hp, hb0, hb1, hL⟩ := h.ex
  obtain ⟨a, c, rfl⟩ := hs.form
  have c0 : w.cell? ⟨g, 0, none⟩ = some (.slice a L.length c) := by rw [cell_of_row w g 0 _ _ _ hg]; rfl
  have c1 : w.cell? ⟨g, 1, none⟩ = some (.int .i64 (p : Int)) := by rw [cell_of_row w g 1 _ _ _ hg]; rfl
  have c2 : w.cell? ⟨g, 2, none⟩ = some (.bool bad) := by rw [cell_of_row w g 2 _ _ _ hg]; rfl
  have HB0 := Held.mk hb0
  have HB1 := Held.mk hb1
  have HP := Held.mk hp
  clear hg hs hne h hb0 hb1 hp
  cases bad
  · obtain ⟨b, hb⟩ : ∃ b : Bool, ((p : Int) == (L.length : Int)) = b := ⟨_, rfl⟩
    have HE : Held (b = l.isEmpty) := ⟨by
      have h1 := HB0.out rfl
      have h2 := HP.out
      have h3 : l.length = L.length - p := by rw [← h1, List.length_drop]
      rw [← hb]
      cases l with
      | nil => simp at h3; simp; omega
      | cons c l => simp at h3 ⊢; omega⟩
    go_enter Try.func36, Try.ntmps36
    go_wp2
    go_quiet (fail)
    go_wp2
    go_ret
    exact ⟨by rw [← HE.out]; first | rfl | (rw [← hb]; rfl) | (rw [← hb]; congr 2), _, rfl⟩
  · go_enter Try.func36, Try.ntmps36
    go_wp2
    go_quiet (fail)
    go_wp2
    go_ret
    exact ⟨rfl, _, rfl⟩
/-- Where it stands behind so many numbers. -/
def atV (G : Value × TypeId × List UInt8) (p : Nat) (l : List UInt8) (bad : Bool) : Nat → Nat
  | 0 => p
  | k + 1 => atP G (atV G p l bad k) (rl l (k + 1)) (rb l bad (k + 1))
structure Get7Rel (G : Value × TypeId × List UInt8) (w : World) (g q p : Nat) (l : List UInt8) (bad : Bool) (i : Value) (wr : World) : Prop where
  ex : ∃ (k : Nat) (z : Array Value), k ≤ 8 ∧ i = .int .i64 k ∧ wr.heap[w.heap.size]? = some (.cells z 36 (0, 0)) ∧ z.size = 8 ∧
    wr.heap[w.heap.size + 1]? = some (.cells ((getW l k).map (Value.int .i64)).toArray 36 (0, 0)) ∧ R7 G wr g q (atV G p l bad k) (rl l k) (rb l bad k) ∧ Fr (· = g) w wr ∧ w.heap.size + 2 ≤ wr.heap.size
set_option maxHeartbeats 400000 in
theorem get7_any (G : Value × TypeId × List UInt8) (g q p : Nat) (l : List UInt8) (bad : Bool) (w : World) (h : R7 G w g q p l bad) (hq : q < w.heap.size) :
    Calls Try.prog 34 #[.pointer (some ⟨g, 0, none⟩)] w fun e w' => e = .returned (vv (getV l bad)) ∧ R7 G w' g q (atV G p l bad 8) (rl l 8) (rb l bad 8) ∧ Fr (· = g) w w' := by
  have HR := Held.mk h
  have hg := h.lt
  have HQ := Held.mk hq
  clear h hq
  have HZ8 := Held.mk (show (Try.prog.info? 36).map (·.size) = some ([(0 : Int), 0, 0, 0, 0, 0, 0, 0].map (Value.int .i64)).length by kernel_rfl)
  have O8 := Held.mk (show ∀ u ∈ [(0 : Int), 0, 0, 0, 0, 0, 0, 0].map (Value.int .i64), u.oneCell' = true by intro u hu; obtain ⟨_, _, rfl⟩ := List.mem_map.1 hu; rfl)
  go_enter Try.func34, Try.ntmps34
  go_wp2
  go_loopw [4] (fun i wr => Get7Rel G w g q p l bad i wr) (fun i _ => 8 - (intOf i).toNat)
  case atStart =>
    have hb : Below w.heap.size w ((w.alloc (.cells #[.int .i64 0, .int .i64 0, .int .i64 0, .int .i64 0, .int .i64 0, .int .i64 0, .int .i64 0, .int .i64 0] 36)).alloc (.cells #[.int .i64 0, .int .i64 0, .int .i64 0, .int .i64 0, .int .i64 0, .int .i64 0, .int .i64 0, .int .i64 0] 36)) := ((Below.refl _ _).alloc (Nat.le_refl _) _).alloc (by simp) _
    exact ⟨⟨0, _, by omega, rfl, laid1 (laid0 _ _) _, rfl, laidN _ (by simp) rfl, HR.out.grow hb, Fr.ofBelow hb _, by simp⟩⟩
  case round =>
    obtain ⟨k, z, hk, rfl, g0, hz, g1, hr, hf, hs⟩ := hrel.ex
    have G0 := Held.mk g0
    have G1 := Held.mk g1
    have HR2 := Held.mk hr
    have HF := Held.mk hf
    clear g0 g1 hr hf hrel
    by_cases hlt : k < 8
    · go_wp2_with (go_at_call 33; refine (num7_any G g q _ _ _ most (by decide) _ HR2.out).mono ?_; rintro e w2 ⟨rfl, hr2, hf2⟩; have HR3 := Held.mk hr2; have HF2 := Held.mk hf2; clear hr2 hf2; have hne : ¬ (w.heap.size + 1 = g) := (by omega); have G2 := Held.mk ((HF2.out.block (w.heap.size + 1) (by omega) hne).trans G1.out); have c2 : w2.cell? ⟨w.heap.size + 1, k, none⟩ = some (.int .i64 0) := (cell_of_row _ _ _ _ _ _ G2.out).trans (by simp [getW, hlt]); have f2 : w2.frozen? ⟨w.heap.size + 1, k, none⟩ = false := frozen_of_row _ _ _ _ _ G2.out)
      go_roundw
      case rel =>
        refine ⟨⟨k + 1, z, by omega, by push_cast; rfl, ?_, hz, ?_, ?_, ?_, ?_⟩⟩
        · exact (heap_setCell_other _ _ _ _ (by simp)).trans ((HF2.out.block _ (by omega) (by omega)).trans G0.out)
        · refine (heap_setCell_same _ _ _ _ _ _ G2.out).trans ?_
          rw [← getW_set]
          simp [List.map_set]
        · exact HR3.out.fr (Fr.setCell (S := (· = w.heap.size + 1)) w2 rfl _) (by omega) (by have := HQ.out; omega)
        · exact (HF.out.trans HF2.out).trans' (Fr.setCell (S := (· = w.heap.size + 1)) w2 rfl _) (fun i hi e => by omega)
        · have := HF2.out.size
          simp [World.setCell]; omega
      case measure => simp [intOf]; omega
    · obtain rfl : k = 8 := by omega
      obtain ⟨bd, hbd⟩ : ∃ bd, rb l bad 8 = bd := ⟨_, rfl⟩
      rw [hbd] at HR2
      have HI := Held.mk (show (Try.prog.info? 36).map (·.size) = some ((getW l 8).map (Value.int .i64)).length by rw [List.length_map, getW_length]; kernel_rfl)
      have hone : ∀ u ∈ (getW l 8).map (Value.int .i64), u.oneCell' = true := by intro u hu; obtain ⟨_, _, rfl⟩ := List.mem_map.1 hu; rfl
      have O1 := Held.mk hone
      have HZ := Held.mk (show z.size = ((getW l 8).map (Value.int .i64)).length by rw [List.length_map, getW_length]; exact hz)
      have cb := bad7 HR2.out
      clear hone
      cases bd
      · go_wp2_with (first
          | (refine wpList_loadB rfl rfl G1.out rfl Try.underlying36 rfl HI.out ?_)
          | (refine wpList_storeB rfl rfl rfl G0.out HZ.out rfl rfl HI.out O1.out ?_; intro w3 hr3 ht3 hf3 hs3))
        refine bodyPost_ret_by (results_cell_mid Try.results34 _ _ w.heap.size 0 _ _ rfl hr3 Try.underlying36 rfl HI.out) rfl ⟨?_, ?_, ?_⟩
        · rw [getV, hbd]; rfl
        · rw [hbd]; exact HR2.out.fr hf3 (by omega) (by have := HQ.out; omega)
        · exact HF.out.trans' hf3 (fun i hi e => by omega)
      · go_wp2_with (first
          | (refine wpList_storeB rfl rfl rfl G0.out (cs := [(0 : Int), 0, 0, 0, 0, 0, 0, 0].map (Value.int .i64)) hz rfl rfl HZ8.out O8.out ?_; intro w3 hr3 ht3 hf3 hs3))
        refine bodyPost_ret_by (results_cell_mid Try.results34 _ _ w.heap.size 0 _ _ rfl hr3 Try.underlying36 rfl HZ8.out) rfl ⟨?_, ?_, ?_⟩
        · rw [getV, hbd]; rfl
        · rw [hbd]; exact HR2.out.fr hf3 (by omega) (by have := HQ.out; omega)
        · exact HF.out.trans' hf3 (fun i hi e => by omega)
set_option maxHeartbeats 400000 in
theorem put7_any (b : Value) (l : List UInt8) (a : List Int) (ha : a.length = 8) (hi : ∀ x ∈ a, I64 x) (w : World) (h : Sl w 1 b l.length (bvs l)) (hn : Fits (l.length + 128)) :
    Calls Try.prog 37 #[b, vv a] w fun e w' => ∃ r, e = .returned r ∧ Own w' w.heap.size 1 r (putL l a).length (bvs (putL l a)) ∧ Below w.heap.size w w' := by
  obtain ⟨ba, bc, rfl⟩ := h.form
  have HS := Held.mk h
  have HI := Held.mk (show (Try.prog.info? 36).map (·.size) = some (a.map (Value.int .i64)).length by rw [List.length_map, ha]; kernel_rfl)
  have H1 := Held.mk ha
  have H2 := Held.mk hi
  clear ha hi h
  have key : ∃ W, Held (W = w.alloc (.cells (a.map (Value.int .i64)).toArray 36)) ∧ Held (W.heap[w.heap.size]? = some (.cells (a.map (Value.int .i64)).toArray 36 (0, 0))) ∧ Held (Below w.heap.size w W) :=
    ⟨_, ⟨rfl⟩, ⟨laid0 _ _⟩, ⟨(Below.refl _ _).alloc (Nat.le_refl _) _⟩⟩
  obtain ⟨W, hW, HA, HL⟩ := key
  go_enter Try.func37, Try.ntmps37
  go_wp2_with (first
    | rw [← hW.out])
  go_loopw [0, 5] (fun r i wr => PutRel w l a r i wr ∧ wr.heap[w.heap.size]? = some (.cells (a.map (Value.int .i64)).toArray 36 (0, 0)) ∧ w.heap.size < wr.heap.size) (fun _ i _ => 8 - (intOf i).toNat)
  case atStart =>
    have e : putL l (a.take 0) = l := by simp [putL]
    exact ⟨⟨⟨0, ba, bc, by omega, rfl, by rw [e], HL.out, by rw [e]; exact HS.out.grow HL.out, .inl rfl⟩⟩, HA.out, by rw [hW.out]; simp⟩
  case round =>
    obtain ⟨hrel, hA, hsz⟩ := hrel
    obtain ⟨k, ra, rc, hk, rfl, rfl, hbel, hsl, hor⟩ := hrel.ex
    have HAW := Held.mk hA
    have HB := Held.mk hbel
    have HSl := Held.mk hsl
    have HO := Held.mk hor
    clear hrel hbel hsl hor hA
    by_cases hlt : k < 8
    · have c1 : a[k]? = some (a.getD k 0) := by simp [H1.out, hlt]
      have hx64 : I64 (a.getD k 0) := H2.out _ (by rw [List.getD_eq_getElem?_getD, c1]; exact List.mem_of_getElem? c1)
      have HP := Held.mk (putL_take (l := l) (show k < a.length by rw [H1.out]; exact hlt))
      have hfit : Fits ((putL l (a.take k)).length + 16) := hn.le (by
        have := putL_len l (a.take k) (fun x hx => H2.out x (List.mem_of_mem_take hx))
        rw [List.length_take, H1.out] at this
        omega)
      generalize hx : a.getD k 0 = x at c1 HP hx64
      have cc : wr.cell? ⟨w.heap.size, k, none⟩ = some (.int .i64 x) := by rw [cell_of_row wr _ k _ _ _ HAW.out]; simp [c1]
      generalize hP : putL l (a.take k) = P at *
      go_wp2_with (go_at_call 38; refine (r11num_any _ _ _ _ HSl.out hfit hx64).mono ?_; rintro e w2 ⟨r2, rfl, ho2, hb2⟩; have HO2 := Held.mk ho2; clear ho2)
      go_roundw
      case rel =>
        rw [HP.out] at HO2
        obtain ⟨sa, sc, rfl⟩ := HO2.out.form
        exact ⟨⟨k + 1, sa, sc, by omega, by push_cast; rfl, rfl, HB.out.trans (hb2.mono HB.out.size), HO2.out.sl, .inr (HO2.out.lower HB.out.size)⟩, (hb2.block _ hsz).trans HAW.out, by have := hb2.size; omega⟩
      case measure => simp [intOf]; omega
    · obtain rfl : k = 8 := by omega
      have e8 : a.take 8 = a := List.take_of_length_le (by rw [H1.out]; exact Nat.le_refl _)
      go_wp2
      go_ret
      rcases HO.out with h0 | ho
      · omega
      · refine ⟨.slice ra (putL l (a.take 8)).length rc, rfl, ?_, HB.out⟩
        rw [e8] at ho ⊢
        exact ho
end Go.Proofs.Ytbhflfdlkiihgaa
