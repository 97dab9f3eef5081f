/- Walks of chacha: words read, a state laid out. No condition. -/
import Derived.Test.YtokndemdmkaofaaCha2
namespace Go.Bx
open Go Go.RowKit
def word4 (l : List UInt8) : Nat := fromB (l.take 4).reverse
theorem word4_lt (l : List UInt8) : B32 (word4 l) := by
  have h := fromB_lt _ (l.take 4).reverse rfl
  have h2 : (l.take 4).reverse.length ≤ 4 := by rw [List.length_reverse, List.length_take]; omega
  have : 256 ^ (l.take 4).reverse.length ≤ 256 ^ 4 := Nat.pow_le_pow_right (by omega) h2
  unfold B32 word4; omega
/-- Words laid into a row, from a place on. -/
def layW (l : List UInt8) (at_ : Nat) (L : List Nat) (k : Nat) : List Nat := (List.range k).foldl (fun L i => L.set (at_ + i) (word4 (l.drop (4 * i)))) L
theorem layW_succ (l : List UInt8) (at_ : Nat) (L : List Nat) (k : Nat) : layW l at_ L (k + 1) = (layW l at_ L k).set (at_ + k) (word4 (l.drop (4 * k))) := by
  unfold layW; rw [List.range_succ, List.foldl_append]; rfl
theorem layW_len (l : List UInt8) (at_ : Nat) (L : List Nat) : ∀ k, (layW l at_ L k).length = L.length
  | 0 => rfl
  | k + 1 => by rw [layW_succ, List.length_set, layW_len l at_ L k]
theorem layW_ok (l : List UInt8) (at_ : Nat) (L : List Nat) (h : ∀ x ∈ L, B32 x) : ∀ k, ∀ x ∈ layW l at_ L k, B32 x
  | 0 => h
  | k + 1 => fun x hx => by
    rw [layW_succ] at hx
    rcases List.mem_or_eq_of_mem_set hx with h1 | h1
    · exact layW_ok l at_ L h k x h1
    · rw [h1]; exact word4_lt _
def st0 : List Nat := [1634760805, 857760878, 2036477234, 1797285236, 0, 0, 0, 0, 0, 0, 0, 0, 0, 0, 0, 0]
def stateL (key : List UInt8) (count : Nat) (nonce : List UInt8) : List Nat := layW nonce 13 ((layW key 4 st0 8).set 12 count) 3
theorem stateL_len (key : List UInt8) (count : Nat) (nonce : List UInt8) : (stateL key count nonce).length = 16 := by rw [stateL, layW_len, List.length_set, layW_len]; rfl
theorem stateL_ok (key : List UInt8) (count : Nat) (nonce : List UInt8) (hc : B32 count) : ∀ x ∈ stateL key count nonce, B32 x := by
  refine layW_ok _ _ _ (fun x hx => ?_) 3
  rcases List.mem_or_eq_of_mem_set hx with h1 | h1
  · refine layW_ok _ _ _ (fun x hx => ?_) 8 x h1
    have : ∀ x ∈ st0, x < 4294967296 := by decide
    exact this x hx
  · rw [h1]; exact hc
theorem slice_arr {P : Program} {t e : TypeId} {n : Nat} {i : TypeInfo} (ht : P.underlying t = some (.array n e)) (hi : P.info? e = some i) (h1 : i.size = 1) {g j : Nat} (hj : j < n) {ji : Int} (hji : ji = (j : Int)) (w : World) :
    (Instr.sliceAt t (.pointer (some ⟨g, 0, none⟩)) (some (.int .i64 ji)) none none).run P w = .ok (.slice (some ⟨g, j, none⟩) (n - j) (n - j)) w := by
  subst hji
  have h0 : ¬ n = j := by omega
  have h2 : j ≤ n := by omega
  simp [Instr.sliceAt, Instr.sureAddr, Instr.sliceBounds, run_sliceBound, run_underlying ht, sizeOf, typeInfo, hi, h1, Addr.add, h0, h2]
  intro h; exact h.symm
/-- What lies in a box of bytes, from a place on. -/
theorem Sl.boxFrom {w : World} {g : Nat} {l : List UInt8} {t : TypeId} {fr : Nat × Nat} (hg : w.heap[g]? = some (.cells (bvs l).toArray t fr)) (j n : Nat) (hj : j + n = l.length) (hm : l.length ≤ maxLen) :
    Sl w 1 (.slice (some ⟨g, j, none⟩) n n) n (bvs (l.drop j)) :=
  ⟨by rw [bvs_length, List.length_drop]; omega, _, n, rfl, Nat.le_refl _, by omega, (by intro h; cases h), .inr ⟨g, j, rfl, (Array.getElem?_eq_some_iff.1 hg).1, fun i u hi => by
    rw [cell_of_row w g _ _ t fr hg]
    rw [← bvs_drop, Nat.mul_one, List.getElem?_drop] at hi
    simpa using hi⟩⟩
end Go.Bx
namespace Go.Proofs.Ytokndemdmkaofaa
open Go.RowKit Go.Bx

set_option maxHeartbeats 1000000 in
theorem word_any (v : Value) (n : Nat) (l : List UInt8) (w : World) (h : Sl w 1 v n (bvs l)) (hn : 4 ≤ n) :
    Calls Try.prog 55 #[v] w fun e w' => e = .returned (.int .u32 (word4 l : Int)) ∧ Below w.heap.size w w' := by
  have hl := h.1
  rw [bvs_length, Nat.mul_one] at hl
  obtain ⟨i0, hi, hz0, hz1, hz2⟩ := info_parts infoB
  obtain ⟨a, c, rfl⟩ := h.form
  obtain ⟨a1, c1, hr1, hs1, hb1⟩ := ex_cut_h Try.underlying28 hi h .i64 4 (by omega) (by omega)
  have hs := hs1 w h
  rw [show Int.toNat 4 = 4 from rfl, bvs_take] at hs
  have hlen : (l.take 4).length = 4 := by rw [List.length_take]; omega
  rw [← hlen] at hs
  have HS := Held.mk hs
  have hfv : frbV (l.take 4).reverse = (word4 l : Int) := by unfold frbV; rw [if_pos (by rw [List.length_reverse, hlen]; omega)]; rfl
  have HV := Held.mk hfv
  have hw := word4_lt l
  have HW := Held.mk hw
  have HL := Held.mk hlen
  obtain ⟨x, hx⟩ : ∃ x : Int, x = (word4 l : Int) := ⟨_, rfl⟩
  have hx0 : 0 ≤ x := by omega
  have hx1 : x < 4294967296 := by unfold B32 at hw; omega
  have HX := Held.mk hx
  clear h hs1 hb1 hs hi hz0 hz1 hz2 hlen hfv hw hx
  go_enter Try.func55, Try.ntmps55
  go_wp2_with fail
  refine (fromLittle_any _ (l.take 4) w (by rw [HL.out] at HS; rw [HL.out]; exact HS.out) ⟨by rw [HL.out]; decide⟩).mono ?_
  rintro e w1 ⟨he, hb⟩
  rw [HV.out, ← HX.out] at he
  subst he
  go_wp2_with fail
  go_ret
  rw [← HX.out]
  exact ⟨rfl, hb⟩
theorem Row.set {g : Nat} {L : List Nat} {w : World} (h : Row g L w) (i y : Nat) : Row g (L.set i y) (w.setCell ⟨g, i, none⟩ (.int .u32 (y : Int))) := by
  have := heap_setCell_same w g i (w32 L) _ (.int .u32 (y : Int)) h
  rw [w32_set] at this
  exact this
set_option maxHeartbeats 1000000 in
theorem state_any (key nonce : List UInt8) (count : Nat) (hk : key.length = 32) (hn : nonce.length = 12) (w : World) :
    Calls Try.prog 37 #[.agg (bvs key).toArray, .int .u32 (count : Int), .agg (bvs nonce).toArray] w fun e w' => e = .returned (.agg (w32 (stateL key count nonce))) ∧ Below w.heap.size w w' := by
  obtain ⟨i8, hi8, _, hi81, _⟩ := info_parts infoB
  have hslK : ∀ (k : Nat), k < 8 → ∀ w', (Instr.sliceAt 33 (.pointer (some ⟨w.heap.size, 0, none⟩)) (some (.int .i64 (4 * (k : Int)))) none none).run Try.prog w' = .ok (.slice (some ⟨w.heap.size, 4 * k, none⟩) (32 - 4 * k) (32 - 4 * k)) w' := fun k hk w' => slice_arr Try.underlying33 hi8 hi81 (by omega) (by omega) w'
  have hslN : ∀ (k : Nat), k < 3 → ∀ w', (Instr.sliceAt 34 (.pointer (some ⟨w.heap.size + 1, 0, none⟩)) (some (.int .i64 (4 * (k : Int)))) none none).run Try.prog w' = .ok (.slice (some ⟨w.heap.size + 1, 4 * k, none⟩) (12 - 4 * k) (12 - 4 * k)) w' := fun k hk w' => slice_arr Try.underlying34 hi8 hi81 (by omega) (by omega) w'
  have HSK := Held.mk hslK
  have HSN := Held.mk hslN
  obtain ⟨ci, hci⟩ : ∃ ci : Int, ci = (count : Int) := ⟨_, rfl⟩
  rw [← hci]
  have HC := Held.mk hci
  have HK := Held.mk hk
  have HN := Held.mk hn
  clear hci hk hn hi8 hi81 hslK hslN
  go_enter Try.func37, Try.ntmps37
  go_wp2_with fail
  refine gen_world ?_
  intro W1 HW
  have hz : W1.heap.size = w.heap.size + 4 := by rw [HW.out]; simp
  have B1 : Held (Below w.heap.size w W1) := ⟨by rw [HW.out]; exact ((((Below.refl _ _).alloc (Nat.le_refl _) _).alloc (by simp) _).alloc (by simp; omega) _).alloc (by simp; omega) _⟩
  have G0 : Held (W1.heap[w.heap.size]? = some (.cells (bvs key).toArray 33 (0, 0))) := ⟨by rw [HW.out]; exact laid1 (laid1 (laid1 (laid0 _ _) _) _) _⟩
  have G1 : Held (W1.heap[w.heap.size + 1]? = some (.cells (bvs nonce).toArray 34 (0, 0))) := ⟨by rw [HW.out]; exact laid1 (laid1 (laidN _ (by simp) rfl) _) _⟩
  have G2 : Held (Row (w.heap.size + 1 + 1) (List.replicate 16 0) W1) := ⟨by rw [HW.out]; exact laid1 (laidN _ (by simp) rfl) _⟩
  have G3 : Held (Row (w.heap.size + 1 + 1 + 1) st0 W1) := ⟨by rw [HW.out]; exact laidN _ (by simp) rfl⟩
  have HZ := Held.mk hz
  clear HW hz
  go_loopw [11] (fun i wr => ∃ k : Nat, i = .int .i64 k ∧ k ≤ 8 ∧ Held (Row (w.heap.size + 1 + 1 + 1) (layW key 4 st0 k) wr) ∧ Held (Fr (· = w.heap.size + 1 + 1 + 1) W1 wr)) (fun i _ => 8 - (intOf i).toNat)
  case atStart => exact ⟨0, rfl, by omega, G3, ⟨Fr.refl _ _⟩⟩
  case round =>
    obtain ⟨k, rfl, hk, hR, hF⟩ := hrel
    by_cases hlt : k < 8
    · have hbox : wr.heap[w.heap.size]? = some (.cells (bvs key).toArray 33 (0, 0)) := by rw [hF.out.block _ (by rw [HZ.out]; omega) (by omega)]; exact G0.out
      have HS := Held.mk (Sl.boxFrom hbox (4 * k) (32 - 4 * k) (by rw [HK.out]; omega) (by rw [HK.out]; decide))
      clear hbox
      have hsl := HSK.out k hlt
      go_wp2_with (go_at_call 55; refine (word_any _ _ _ _ HS.out (by omega)).mono ?_; rintro e w1 ⟨rfl, hb⟩; have hR1 := hR.out.fr (Fr.ofBelow hb _); obtain ⟨z, hz⟩ : ∃ z, (layW key 4 st0 k)[4 + k]? = some z := ⟨_, List.getElem?_eq_getElem (by rw [layW_len]; simp [st0]; omega)⟩; have c1 := hR1.cell hz; have f1 := frozen_of_row w1 (w.heap.size + 1 + 1 + 1) (4 + k) _ _ hR1; have HR1 := Held.mk hR1; have HB := Held.mk hb; clear hR1 hb)
      go_roundw
      case rel =>
        refine ⟨k + 1, by push_cast; rfl, by omega, ⟨?_⟩, ⟨?_⟩⟩
        · rw [layW_succ]; exact HR1.out.set _ _
        · exact (hF.out.trans (Fr.ofBelow HB.out _)).trans (Fr.setCell (S := (· = w.heap.size + 1 + 1 + 1)) w1 rfl _)
      case measure => simp [intOf]; omega
    · obtain rfl : k = 8 := by omega
      obtain ⟨z, hz⟩ : ∃ z, (layW key 4 st0 8)[12]? = some z := ⟨_, List.getElem?_eq_getElem (by rw [layW_len]; decide)⟩
      have c1 := hR.out.cell hz
      have f1 := frozen_of_row wr (w.heap.size + 1 + 1 + 1) 12 _ _ hR.out
      go_wp2
      go_loopw [24] (fun i wr => ∃ k : Nat, i = .int .i64 k ∧ k ≤ 3 ∧ Held (Row (w.heap.size + 1 + 1 + 1) (layW nonce 13 ((layW key 4 st0 8).set 12 count) k) wr) ∧ Held (Fr (· = w.heap.size + 1 + 1 + 1) W1 wr)) (fun i _ => 3 - (intOf i).toNat)
      case atStart =>
        refine ⟨0, rfl, by omega, ⟨?_⟩, ⟨hF.out.trans (Fr.setCell (S := (· = w.heap.size + 1 + 1 + 1)) wr rfl _)⟩⟩
        rw [HC.out]; exact hR.out.set 12 count
      case round =>
        clear hR hF c1 f1 hz
        obtain ⟨k, rfl, hk, hR, hF⟩ := hrel
        by_cases hlt : k < 3
        · have hbox : wr.heap[w.heap.size + 1]? = some (.cells (bvs nonce).toArray 34 (0, 0)) := by rw [hF.out.block _ (by rw [HZ.out]; omega) (by omega)]; exact G1.out
          have HS := Held.mk (Sl.boxFrom hbox (4 * k) (12 - 4 * k) (by rw [HN.out]; omega) (by rw [HN.out]; decide))
          clear hbox
          have hsl := HSN.out k hlt
          go_wp2_with (go_at_call 55; refine (word_any _ _ _ _ HS.out (by omega)).mono ?_; rintro e w1 ⟨rfl, hb⟩; have hR1 := hR.out.fr (Fr.ofBelow hb _); obtain ⟨z, hz⟩ : ∃ z, (layW nonce 13 ((layW key 4 st0 8).set 12 count) k)[13 + k]? = some z := ⟨_, List.getElem?_eq_getElem (by rw [layW_len, List.length_set, layW_len]; simp [st0]; omega)⟩; have c1 := hR1.cell hz; have f1 := frozen_of_row w1 (w.heap.size + 1 + 1 + 1) (13 + k) _ _ hR1; have HR1 := Held.mk hR1; have HB := Held.mk hb; clear hR1 hb)
          refine ⟨⟨_, _, _, _, _, _, _, _, _, _, _, _, ?rel, rfl⟩, ?measure⟩
          case rel =>
            refine ⟨k + 1, by push_cast; rfl, by omega, ⟨?_⟩, ⟨?_⟩⟩
            · rw [layW_succ]; exact HR1.out.set _ _
            · exact (hF.out.trans (Fr.ofBelow HB.out _)).trans (Fr.setCell (S := (· = w.heap.size + 1 + 1 + 1)) w1 rfl _)
          case measure => simp [intOf]; omega
        · obtain rfl : k = 3 := by omega
          have hrow : wr.heap[w.heap.size + 1 + 1 + 1]? = some (.cells ((stateL key count nonce).map fun n : Nat => Value.int .u32 (n : Int)).toArray 57 (0, 0)) := hR.out
          have hz2 : wr.heap[w.heap.size + 1 + 1]? = some (.cells (w32 (List.replicate 16 0)) 57 (0, 0)) := by rw [hF.out.block _ (by rw [HZ.out]; omega) (by omega)]; exact G2.out
          have hi16 : (Try.prog.info? 57).map (·.size) = some ((stateL key count nonce).map fun n : Nat => Value.int .u32 (n : Int)).length := by rw [List.length_map, stateL_len]; kernel_rfl
          have hzz : (w32 (List.replicate 16 0)).size = ((stateL key count nonce).map fun n : Nat => Value.int .u32 (n : Int)).length := by rw [List.length_map, stateL_len]; rfl
          have hone : ∀ u ∈ (stateL key count nonce).map fun n : Nat => Value.int .u32 (n : Int), u.oneCell' = true := by intro u hu; obtain ⟨_, _, rfl⟩ := List.mem_map.1 hu; rfl
          have HR := Held.mk hrow
          have H2 := Held.mk hz2
          have HI := Held.mk hi16
          have HZZ := Held.mk hzz
          have HO := Held.mk hone
          clear hrow hz2 hi16 hzz hone
          go_wp2_with (first | (refine wpList_loadB rfl rfl HR.out rfl Try.underlying57 rfl HI.out ?_) | (refine wpList_storeB rfl rfl rfl H2.out HZZ.out rfl rfl HI.out HO.out ?_; intro w2 hr2 ht2 hf2 hs2))
          refine bodyPost_ret_by (results_cell_mid Try.results37 _ _ (w.heap.size + 1 + 1) 0 _ _ rfl hr2 Try.underlying57 rfl HI.out) rfl ⟨rfl, ?_⟩
          have h1 : Below w.heap.size w wr := B1.out.trans (hF.out.below B1.out.size (fun i hi e => by omega))
          exact h1.trans (hf2.below h1.size (fun i hi e => by omega))
end Go.Proofs.Ytokndemdmkaofaa
