/- Walks of vec: what its functions answer. No condition. -/
import Derived.Test.YtlmegcbiijkmaaaQt
import Derived.Test.YtlmegcbiijkmaaaProg
namespace Go.Proofs.Ytlmegcbiijkmaaa
open Go.RowKit Go.Bx

abbrev vv (l : List Int) : Value := .agg (l.map (Value.int .i64)).toArray
def leB (a b : List Int) : Bool := (List.range 8).all fun i => decide (a.getD i 0 ≤ b.getD i 0)
theorem leB_true {a b : List Int} (h : ∀ i, i < 8 → a.getD i 0 ≤ b.getD i 0) : leB a b = true := by
  simp only [leB, List.all_eq_true, List.mem_range, decide_eq_true_eq]; exact h
theorem leB_false {a b : List Int} {i : Nat} (hi : i < 8) (h : b.getD i 0 < a.getD i 0) : leB a b = false := by
  rw [Bool.eq_false_iff]; intro hc
  simp only [leB, List.all_eq_true, List.mem_range, decide_eq_true_eq] at hc
  have := hc i hi
  omega
theorem at_of {l : List Int} {k : Nat} (h : k < l.length) : l[k]? = some (l.getD k 0) := by simp [h]
set_option maxHeartbeats 400000 in
theorem le_any (a b : List Int) (ha : a.length = 8) (hb : b.length = 8) (w : World) :
    Calls Try.prog 31 #[vv a, vv b] w fun e w' => e = .returned (.bool (leB a b)) ∧ Below w.heap.size w w' := by
  have H1 := Held.mk ha
  have H2 := Held.mk hb
  clear ha hb
  obtain ⟨W, hW⟩ : ∃ W, W = (w.alloc (.cells (a.map (Value.int .i64)).toArray 39)).alloc (.cells (b.map (Value.int .i64)).toArray 39) := ⟨_, rfl⟩
  have hB : Below w.heap.size w W := by rw [hW]; exact ((Below.refl _ _).alloc (Nat.le_refl _) _).alloc (by simp) _
  go_enter Try.func31, Try.ntmps31
  go_wp2
  go_loopw [6] (fun i wr => ∃ k : Nat, k ≤ 8 ∧ i = .int .i64 k ∧ Held (∀ j, j < k → a.getD j 0 ≤ b.getD j 0) ∧ ∃ n, wr = W.drewN n) (fun i _ => 8 - (intOf i).toNat)
  case atStart => exact ⟨0, by omega, rfl, ⟨fun j hj => by omega⟩, 0, hW.symm⟩
  case round =>
    obtain ⟨k, hk, rfl, hall, n, rfl⟩ := hrel
    subst hW
    by_cases hlt : k < 8
    · have c1 : a[k]? = some (a.getD k 0) := at_of (by rw [H1.out]; exact hlt)
      have c2 : b[k]? = some (b.getD k 0) := at_of (by rw [H2.out]; exact hlt)
      generalize hx : a.getD k 0 = x at c1
      generalize hy : b.getD k 0 = y at c2
      go_wp2
      go_quiet (fail)
      by_cases hxy : y < x
      · go_wp2
        go_ret
        exact ⟨by rw [leB_false hlt (by rw [hx, hy]; exact hxy)]; rfl, below_drewN (below_drewN hB _) _⟩
      · go_wp2
        go_roundw
        case rel =>
          refine ⟨k + 1, by omega, by push_cast; rfl, ⟨fun j hj => ?_⟩, _, rfl⟩
          by_cases hjk : j = k
          · subst hjk; rw [hx, hy]; omega
          · exact hall.out j (by omega)
        case measure => simp [intOf]; omega
    · obtain rfl : k = 8 := by omega
      go_wp2
      go_ret
      exact ⟨by rw [leB_true hall.out]; rfl, below_drewN hB _⟩
def mergeL (a b : List Int) : List Int := (List.range 8).map fun i => max (a.getD i 0) (b.getD i 0)
theorem mergeL_length (a b : List Int) : (mergeL a b).length = 8 := by simp [mergeL]
theorem mergeL_getD (a b : List Int) (i : Nat) (h : i < 8) : (mergeL a b).getD i 0 = max (a.getD i 0) (b.getD i 0) := by simp [mergeL, h]
theorem ext8 {a b : List Int} (ha : a.length = 8) (hb : b.length = 8) (h : ∀ i, i < 8 → a.getD i 0 = b.getD i 0) : a = b := by
  refine List.ext_getElem (by omega) fun i h1 h2 => ?_
  have := h i (by omega)
  simpa [h1, h2] using this
structure MerRel (w : World) (a b : List Int) (i : Value) (wr : World) : Prop where
  ex : ∃ (k : Nat) (l : List Int) (z : Array Value), k ≤ 8 ∧ i = .int .i64 k ∧ l.length = 8 ∧ (∀ j, j < k → l.getD j 0 = max (a.getD j 0) (b.getD j 0)) ∧ (∀ j, j < 8 → k ≤ j → l.getD j 0 = a.getD j 0) ∧
    wr.heap[w.heap.size]? = some (.cells (l.map (Value.int .i64)).toArray 39 (0, 0)) ∧ wr.heap[w.heap.size + 1]? = some (.cells (b.map (Value.int .i64)).toArray 39 (0, 0)) ∧
    wr.heap[w.heap.size + 2]? = some (.cells z 39 (0, 0)) ∧ z.size = 8 ∧ Below w.heap.size w wr
set_option maxHeartbeats 400000 in
theorem merge_any (a b : List Int) (ha : a.length = 8) (hb : b.length = 8) (w : World) :
    Calls Try.prog 30 #[vv a, vv b] w fun e w' => e = .returned (vv (mergeL a b)) ∧ Below w.heap.size w w' := by
  have H1 := Held.mk ha
  have H2 := Held.mk hb
  clear ha hb
  go_enter Try.func30, Try.ntmps30
  go_wp2
  go_loopw [6] (fun i wr => MerRel w a b i wr) (fun i _ => 8 - (intOf i).toNat)
  case atStart =>
    refine ⟨⟨0, a, _, by omega, rfl, H1.out, fun j hj => by omega, fun _ _ _ => rfl, laid1 (laid1 (laid0 _ _) _) _, laid1 (laidN _ (by simp) rfl) _, laidN _ (by simp) rfl, rfl, (((Below.refl _ _).alloc (Nat.le_refl _) _).alloc (by simp) _).alloc (by simp; omega) _⟩⟩
  case round =>
    obtain ⟨k, l, z, hk, rfl, hl, hlo, hhi, g0, g1, g2, hz, hbel⟩ := hrel.ex
    have HL := Held.mk hl
    have HLo := Held.mk hlo
    have HHi := Held.mk hhi
    clear hl hlo hhi hrel
    by_cases hlt : k < 8
    · have c1 : (l.map (Value.int .i64)).toArray[k]? = some (.int .i64 (l.getD k 0)) := by simp [HL.out, hlt]
      have c2 : (b.map (Value.int .i64)).toArray[k]? = some (.int .i64 (b.getD k 0)) := by simp [H2.out, hlt]
      generalize hx : l.getD k 0 = x at c1
      generalize hy : b.getD k 0 = y at c2
      have d1 : wr.cell? ⟨w.heap.size, k, none⟩ = some (.int .i64 x) := by rw [cell_of_row _ _ _ _ _ _ g0]; exact c1
      have d2 : wr.cell? ⟨w.heap.size + 1, k, none⟩ = some (.int .i64 y) := by rw [cell_of_row _ _ _ _ _ _ g1]; exact c2
      have f1 : wr.frozen? ⟨w.heap.size, k, none⟩ = false := frozen_of_row _ _ _ _ _ g0
      have G0 := Held.mk g0
      have G1 := Held.mk g1
      have G2 := Held.mk g2
      clear g0 g1 g2 c1 c2
      by_cases hxy : x < y
      all_goals
        go_wp2
        go_region
        go_wp2
        go_roundw
        case rel =>
          refine ⟨⟨k + 1, l.set k (max x y), z, by omega, by push_cast; rfl, by rw [List.length_set, HL.out], fun j hj => ?_, fun j hj hkj => ?_, ?_, ?_, ?_, hz, ?_⟩⟩
          · by_cases hjk : j = k
            · subst hjk; simp only [List.getD_eq_getElem?_getD, List.getElem?_set, HL.out, hlt, if_true, Option.getD_some]
              have := HHi.out j hlt (Nat.le_refl _)
              rw [hx] at this
              rw [← List.getD_eq_getElem?_getD, ← List.getD_eq_getElem?_getD, hy, ← this]
            · rw [← HLo.out j (by omega)]; simp [List.getD_eq_getElem?_getD, Ne.symm hjk]
          · rw [← HHi.out j hj (by omega)]; simp [List.getD_eq_getElem?_getD, show ¬ k = j by omega]
          · refine (heap_setCell_same _ _ _ _ _ _ G0.out).trans ?_
            have hm : max x y = x ∨ max x y = y := by omega
            simp [List.map_set, show max x y = _ from by first | exact Int.max_eq_right (by omega) | exact Int.max_eq_left (by omega)]
          · exact (heap_setCell_other _ _ _ _ (by simp)).trans G1.out
          · exact (heap_setCell_other _ _ _ _ (by simp)).trans G2.out
          · exact hbel.trans ((Fr.setCell (S := (· = w.heap.size)) wr rfl _).below hbel.size (fun i hi e => by omega)).drew
        case measure => simp [intOf]; omega
    · obtain rfl : k = 8 := by omega
      have el : l = mergeL a b := ext8 HL.out (mergeL_length _ _) fun i hi => by rw [HLo.out i hi, mergeL_getD _ _ _ hi]
      subst el
      have hi8 : (Try.prog.info? 39).map (·.size) = some ((mergeL a b).map (Value.int .i64)).length := by rw [List.length_map, mergeL_length]; kernel_rfl
      have HI := Held.mk hi8
      have hz8 : z.size = ((mergeL a b).map (Value.int .i64)).length := by rw [List.length_map, mergeL_length]; exact hz
      have HZ := Held.mk hz8
      have G0 := Held.mk g0
      have G2 := Held.mk g2
      have HB := Held.mk hbel
      have hone : ∀ u ∈ (mergeL a b).map (Value.int .i64), u.oneCell' = true := by intro u hu; obtain ⟨_, _, rfl⟩ := List.mem_map.1 hu; rfl
      have H1C := Held.mk hone
      clear hi8 g0 g1 g2 hbel hz hz8 hone
      go_wp2_with (first | (refine wpList_loadB rfl rfl G0.out rfl Try.underlying39 rfl HI.out ?_) | (refine wpList_storeB rfl rfl rfl G2.out HZ.out rfl rfl HI.out H1C.out ?_; intro w2 hr2 ht2 hf2 hs2))
      refine bodyPost_ret_by (results_cell_mid Try.results30 _ _ (w.heap.size + 2) 0 _ _ rfl hr2 Try.underlying39 rfl HI.out) rfl ⟨rfl, ?_⟩
      exact HB.out.trans (hf2.below HB.out.size (fun i hi e => by omega))
end Go.Proofs.Ytlmegcbiijkmaaa
