/- Walks of the reference's vec: it answers as vec does. No condition. -/
import Derived.Test.YtlmegcbiijkmaaaVecC
import Derived.Test.YtlmegcbiijkmaaaSym
namespace Go.Proofs.Ytlmegcbiijkmaaa
open Go.RowKit Go.Bx

set_option maxHeartbeats 400000 in
theorem rle_any (a b : List Int) (ha : a.length = 8) (hb : b.length = 8) (w : World) :
    Calls Try.prog 43 #[vv a, vv b] w fun e w' => e = .returned (.bool (leB a b)) ∧ Below w.heap.size w w' := by
  have H1 := Held.mk ha
  have H2 := Held.mk hb
  clear ha hb
  obtain ⟨W, hW⟩ : ∃ W, W = (w.alloc (.cells (a.map (Value.int .i64)).toArray 52)).alloc (.cells (b.map (Value.int .i64)).toArray 52) := ⟨_, rfl⟩
  have hB : Below w.heap.size w W := by rw [hW]; exact ((Below.refl _ _).alloc (Nat.le_refl _) _).alloc (by simp) _
  go_enter Try.func43, Try.ntmps43
  go_wp2
  go_loopw [5] (fun i wr => ∃ k : Nat, k ≤ 8 ∧ i = .int .i64 k ∧ Held (∀ j, j < k → a.getD j 0 ≤ b.getD j 0) ∧ ∃ n, wr = W.drewN n) (fun i _ => 8 - (intOf i).toNat)
  case atStart => exact ⟨0, by omega, rfl, ⟨fun j hj => by omega⟩, 0, hW.symm⟩
  case round =>
    obtain ⟨k, hk, rfl, hall, n, rfl⟩ := hrel
    subst hW
    by_cases hlt : k < 8
    · have c1 : a[k]? = some (a.getD k 0) := at_of (by rw [H1.out]; exact hlt)
      have c2 : b[k]? = some (b.getD k 0) := at_of (by rw [H2.out]; exact hlt)
      generalize hx : a.getD k 0 = x at c1
      generalize hy : b.getD k 0 = y at c2
      go_wp2
      go_quiet (fail)
      by_cases hxy : y < x
      · go_wp2
        go_ret
        exact ⟨by rw [leB_false hlt (by rw [hx, hy]; exact hxy)]; rfl, below_drewN (below_drewN hB _) _⟩
      · go_wp2
        go_roundw
        case rel =>
          refine ⟨k + 1, by omega, by push_cast; rfl, ⟨fun j hj => ?_⟩, _, rfl⟩
          by_cases hjk : j = k
          · subst hjk; rw [hx, hy]; omega
          · exact hall.out j (by omega)
        case measure => simp [intOf]; omega
    · obtain rfl : k = 8 := by omega
      go_wp2
      go_ret
      exact ⟨by rw [leB_true hall.out]; rfl, below_drewN hB _⟩
structure RMerRel (w : World) (a b : List Int) (i : Value) (wr : World) : Prop where
  ex : ∃ (k : Nat) (l : List Int) (z : Array Value), k ≤ 8 ∧ i = .int .i64 k ∧ l.length = 8 ∧ (∀ j, j < k → l.getD j 0 = max (a.getD j 0) (b.getD j 0)) ∧ (∀ j, j < 8 → k ≤ j → l.getD j 0 = a.getD j 0) ∧
    wr.heap[w.heap.size]? = some (.cells (l.map (Value.int .i64)).toArray 52 (0, 0)) ∧ wr.heap[w.heap.size + 1]? = some (.cells (b.map (Value.int .i64)).toArray 52 (0, 0)) ∧
    wr.heap[w.heap.size + 2]? = some (.cells z 52 (0, 0)) ∧ z.size = 8 ∧ Below w.heap.size w wr
set_option maxHeartbeats 400000 in
theorem rmerge_any (a b : List Int) (ha : a.length = 8) (hb : b.length = 8) (w : World) :
    Calls Try.prog 42 #[vv a, vv b] w fun e w' => e = .returned (vv (mergeL a b)) ∧ Below w.heap.size w w' := by
  have H1 := Held.mk ha
  have H2 := Held.mk hb
  clear ha hb
  go_enter Try.func42, Try.ntmps42
  go_wp2
  go_loopw [5] (fun i wr => RMerRel w a b i wr) (fun i _ => 8 - (intOf i).toNat)
  case atStart =>
    refine ⟨⟨0, a, _, by omega, rfl, H1.out, fun j hj => by omega, fun _ _ _ => rfl, laid1 (laid1 (laid0 _ _) _) _, laid1 (laidN _ (by simp) rfl) _, laidN _ (by simp) rfl, rfl, (((Below.refl _ _).alloc (Nat.le_refl _) _).alloc (by simp) _).alloc (by simp; omega) _⟩⟩
  case round =>
    obtain ⟨k, l, z, hk, rfl, hl, hlo, hhi, g0, g1, g2, hz, hbel⟩ := hrel.ex
    have HL := Held.mk hl
    have HLo := Held.mk hlo
    have HHi := Held.mk hhi
    clear hl hlo hhi hrel
    by_cases hlt : k < 8
    · have c1 : (l.map (Value.int .i64)).toArray[k]? = some (.int .i64 (l.getD k 0)) := by simp [HL.out, hlt]
      have c2 : (b.map (Value.int .i64)).toArray[k]? = some (.int .i64 (b.getD k 0)) := by simp [H2.out, hlt]
      generalize hx : l.getD k 0 = x at c1
      generalize hy : b.getD k 0 = y at c2
      have d1 : wr.cell? ⟨w.heap.size, k, none⟩ = some (.int .i64 x) := by rw [cell_of_row _ _ _ _ _ _ g0]; exact c1
      have d2 : wr.cell? ⟨w.heap.size + 1, k, none⟩ = some (.int .i64 y) := by rw [cell_of_row _ _ _ _ _ _ g1]; exact c2
      have f1 : wr.frozen? ⟨w.heap.size, k, none⟩ = false := frozen_of_row _ _ _ _ _ g0
      have G0 := Held.mk g0
      have G1 := Held.mk g1
      have G2 := Held.mk g2
      clear g0 g1 g2 c1 c2
      by_cases hxy : x < y
      all_goals
        go_wp2
        go_quiet (fail)
        go_wp2
        go_roundw
        case rel =>
          refine ⟨⟨k + 1, l.set k (max x y), z, by omega, by push_cast; rfl, by rw [List.length_set, HL.out], fun j hj => ?_, fun j hj hkj => ?_, ?_, ?_, ?_, hz, ?_⟩⟩
          · by_cases hjk : j = k
            · subst hjk; simp only [List.getD_eq_getElem?_getD, List.getElem?_set, HL.out, hlt, if_true, Option.getD_some]
              have := HHi.out j hlt (Nat.le_refl _)
              rw [hx] at this
              rw [← List.getD_eq_getElem?_getD, ← List.getD_eq_getElem?_getD, hy, ← this]
            · rw [← HLo.out j (by omega)]; simp [List.getD_eq_getElem?_getD, Ne.symm hjk]
          · rw [← HHi.out j hj (by omega)]; simp [List.getD_eq_getElem?_getD, show ¬ k = j by omega]
          · first
              | (refine (heap_setCell_same (wr.drewN nq) _ _ _ _ _ G0.out).trans ?_; simp [List.map_set, show max x y = y from Int.max_eq_right (by omega)])
              | (have e : l.set k (max x y) = l := by
                  rw [show max x y = x from Int.max_eq_left (by omega), ← hx]
                  exact List.ext_getElem (by simp) fun i h1 h2 => by rw [List.getElem_set]; split <;> simp_all
                 rw [e]; exact G0.out)
          · first
              | exact (heap_setCell_other (wr.drewN nq) ⟨w.heap.size, k, none⟩ _ _ (by simp)).trans G1.out
              | exact G1.out
          · first
              | exact (heap_setCell_other (wr.drewN nq) ⟨w.heap.size, k, none⟩ _ _ (by simp)).trans G2.out
              | exact G2.out
          · first
              | exact hbel.trans (((Fr.drewN (· = w.heap.size) wr nq).trans (Fr.setCell (S := (· = w.heap.size)) (wr.drewN nq) (p := ⟨w.heap.size, k, none⟩) rfl _)).below hbel.size (fun i hi e => by omega))
              | exact below_drewN hbel _
        case measure => simp [intOf]; omega
    · obtain rfl : k = 8 := by omega
      have el : l = mergeL a b := ext8 HL.out (mergeL_length _ _) fun i hi => by rw [HLo.out i hi, mergeL_getD _ _ _ hi]
      subst el
      have hi8 : (Try.prog.info? 52).map (·.size) = some ((mergeL a b).map (Value.int .i64)).length := by rw [List.length_map, mergeL_length]; kernel_rfl
      have HI := Held.mk hi8
      have hz8 : z.size = ((mergeL a b).map (Value.int .i64)).length := by rw [List.length_map, mergeL_length]; exact hz
      have HZ := Held.mk hz8
      have G0 := Held.mk g0
      have G2 := Held.mk g2
      have HB := Held.mk hbel
      have hone : ∀ u ∈ (mergeL a b).map (Value.int .i64), u.oneCell' = true := by intro u hu; obtain ⟨_, _, rfl⟩ := List.mem_map.1 hu; rfl
      have H1C := Held.mk hone
      clear hi8 g0 g1 g2 hbel hz hz8 hone
      go_wp2_with (first | (refine wpList_loadB rfl rfl G0.out rfl Try.underlying52 rfl HI.out ?_) | (refine wpList_storeB rfl rfl rfl G2.out HZ.out rfl rfl HI.out H1C.out ?_; intro w2 hr2 ht2 hf2 hs2))
      refine bodyPost_ret_by (results_cell_mid Try.results42 _ _ (w.heap.size + 2) 0 _ _ rfl hr2 Try.underlying52 rfl HI.out) rfl ⟨rfl, ?_⟩
      exact HB.out.trans (hf2.below HB.out.size (fun i hi e => by omega))
set_option maxHeartbeats 400000 in
theorem rgood_any (a : List Int) (ha : a.length = 8) (w : World) :
    Calls Try.prog 40 #[vv a] w fun e w' => e = .returned (.bool (goodB a)) ∧ Below w.heap.size w w' := by
  have H1 := Held.mk ha
  clear ha
  obtain ⟨W, hW⟩ : ∃ W, W = w.alloc (.cells (a.map (Value.int .i64)).toArray 52) := ⟨_, rfl⟩
  have hB : Below w.heap.size w W := by rw [hW]; exact (Below.refl _ _).alloc (Nat.le_refl _) _
  go_enter Try.func40, Try.ntmps40
  go_wp2
  go_loopw [3] (fun i wr => ∃ k : Nat, k ≤ 8 ∧ i = .int .i64 k ∧ Held (∀ j, j < k → 0 ≤ a.getD j 0 ∧ a.getD j 0 ≤ most) ∧ wr = W) (fun i _ => 8 - (intOf i).toNat)
  case atStart => exact ⟨0, by omega, rfl, ⟨fun j hj => by omega⟩, hW.symm⟩
  case round =>
    obtain ⟨k, hk, rfl, hall, rfl⟩ := hrel
    subst hW
    by_cases hlt : k < 8
    · have c1 : a[k]? = some (a.getD k 0) := by simp [H1.out, hlt]
      generalize hx : a.getD k 0 = x at c1
      obtain ⟨b1, hb1⟩ : ∃ b, decide (x < 0) = b := ⟨_, rfl⟩
      obtain ⟨b2, hb2⟩ : ∃ b, decide (1099511627776 < x) = b := ⟨_, rfl⟩
      cases b1
      · cases b2
        · have hm : Held (0 ≤ x ∧ x ≤ most) := ⟨by unfold most; simp at hb1 hb2; omega⟩
          go_wp2
          go_roundw
          case rel =>
            refine ⟨k + 1, by omega, by push_cast; rfl, ⟨fun j hj => ?_⟩, trivial⟩
            by_cases hjk : j = k
            · subst hjk; rw [hx]; exact hm.out
            · exact hall.out j (by omega)
          case measure => simp [intOf]; omega
        · have hf : goodB a = false := goodB_false (i := k) (by rw [H1.out]; exact hlt) (by rw [hx]; unfold most; simp at hb2; omega)
          go_wp2
          go_ret
          exact ⟨by first | rfl | (rw [hf]; rfl), hB⟩
      · have hf : goodB a = false := goodB_false (i := k) (by rw [H1.out]; exact hlt) (by rw [hx]; simp at hb1; omega)
        go_wp2
        go_ret
        exact ⟨by first | rfl | (rw [hf]; rfl), hB⟩
    · obtain rfl : k = 8 := by omega
      have hf : goodB a = true := goodB_true (by rw [H1.out]; exact hall.out)
      go_wp2
      go_ret
      exact ⟨by first | rfl | (rw [hf]; rfl), hB⟩
set_option maxHeartbeats 400000 in
theorem rhas_any (a : List Int) (d n : Int) (ha : a.length = 8) (w : World) :
    Calls Try.prog 41 #[vv a, .agg #[.int .i64 d, .int .i64 n]] w fun e w' => e = .returned (.bool (hasB a d n)) ∧ Below w.heap.size w w' := by
  have key : ∃ W, Held (W = (w.alloc (.cells (a.map (Value.int .i64)).toArray 52)).alloc (.cells #[.int .i64 d, .int .i64 n] 45)) ∧ Held (W.heap[w.heap.size]? = some (.cells (a.map (Value.int .i64)).toArray 52 (0, 0))) ∧ Held (W.heap[w.heap.size + 1]? = some (.cells #[.int .i64 d, .int .i64 n] 45 (0, 0))) ∧ Held (Below w.heap.size w W) ∧ w.heap.size + 2 ≤ W.heap.size :=
    ⟨_, ⟨rfl⟩, ⟨laid1 (laid0 _ _) _⟩, ⟨laidN _ (by simp) rfl⟩, ⟨((Below.refl _ _).alloc (Nat.le_refl _) _).alloc (by simp) _⟩, by simp⟩
  obtain ⟨W, hW, HA, HB, HL, hs⟩ := key
  have d0 : ∀ x : ExtW W, x.w.cell? ⟨w.heap.size + 1, 0, none⟩ = some (.int .i64 d) := fun x => x.cell (by rw [cell_of_row _ _ _ _ _ _ HB.out]; rfl)
  have d1 : ∀ x : ExtW W, x.w.cell? ⟨w.heap.size + 1, 1, none⟩ = some (.int .i64 n) := fun x => x.cell (by rw [cell_of_row _ _ _ _ _ _ HB.out]; rfl)
  obtain ⟨b0, hb0⟩ : ∃ b, decide (0 ≤ d) = b := ⟨_, rfl⟩
  obtain ⟨b8, hb8⟩ : ∃ b, decide (d < 8) = b := ⟨_, rfl⟩
  have hdv : devB d = (b0 && b8) := by rw [← hb0, ← hb8]; simp [devB]
  cases b0
  · go_enter Try.func41, Try.ntmps41
    go_wp2_with (rw [← hW.out])
    refine wp_region_q (by kernel_rfl) (by kernel_rfl) ?_
    repeat (first
      | go_big_quiet_skip
      | (go_big_quiet_want; go_big_quiet_op; go_big_quiet_on))
    refine wpQuiet_nil (fun x => ?_)
    go_wp2
    go_ret
    exact ⟨by simp [hasB, hdv], HL.out.trans (x.below.mono HL.out.size)⟩
  · cases b8
    · go_enter Try.func41, Try.ntmps41
      go_wp2_with (rw [← hW.out])
      refine wp_region_q (by kernel_rfl) (by kernel_rfl) ?_
      repeat (first
        | go_big_quiet_skip
        | (go_big_quiet_want; go_big_quiet_op; go_big_quiet_on))
      refine wpQuiet_nil (fun x => ?_)
      go_wp2
      go_ret
      exact ⟨by simp [hasB, hdv], HL.out.trans (x.below.mono HL.out.size)⟩
    · have hd : 0 ≤ d ∧ d < 8 := by simpa using And.intro hb0 hb8
      obtain ⟨k, rfl⟩ : ∃ k : Nat, d = k := ⟨d.toNat, by omega⟩
      obtain ⟨y, hy⟩ : ∃ y, a.getD k 0 = y := ⟨_, rfl⟩
      have hk : k < 8 := by omega
      have d2 : ∀ x : ExtW W, x.w.cell? ⟨w.heap.size, k, none⟩ = some (.int .i64 y) := fun x => x.cell (by rw [cell_of_row _ _ _ _ _ _ HA.out, ← hy]; simp [ha, hk])
      obtain ⟨b2, hn⟩ : ∃ b, decide (1 ≤ n) = b := ⟨_, rfl⟩
      cases b2
      all_goals
        go_enter Try.func41, Try.ntmps41
        go_wp2_with (rw [← hW.out])
        refine wp_region_q (by kernel_rfl) (by kernel_rfl) ?_
        repeat (first
          | go_big_quiet_skip
          | (go_big_quiet_want; go_big_quiet_op; go_big_quiet_on))
        refine wpQuiet_nil (fun x => ?_)
        go_wp2
        go_ret
        exact ⟨by simp [hasB, hdv, hn, ← hy], HL.out.trans (x.below.mono HL.out.size)⟩
end Go.Proofs.Ytlmegcbiijkmaaa
