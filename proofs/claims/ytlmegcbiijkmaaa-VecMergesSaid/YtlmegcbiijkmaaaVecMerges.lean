/- The law VecMerges returns true, whatever the input. No condition. -/
import Derived.Test.YtlmegcbiijkmaaaVecLaws
import Derived.Test.YtlmegcbiijkmaaaRows
import Derived.ProofKit
import Derived.OpenShut
namespace Go.Proofs.Ytlmegcbiijkmaaa.vecMerges
open Go.ChangeShapes Go.WideShapes Go.ChangeAt Go.RowKit Go.Bx Go.Proofs.Ytlmegcbiijkmaaa

theorem leB_iff (a b : List Int) : leB a b = true ↔ ∀ i, i < 8 → a.getD i 0 ≤ b.getD i 0 := by simp only [leB, List.all_eq_true, List.mem_range, decide_eq_true_eq]
theorem m_comm (a b : List Int) : mergeL b a = mergeL a b := ext8 (mergeL_length _ _) (mergeL_length _ _) fun i h => by rw [mergeL_getD _ _ _ h, mergeL_getD _ _ _ h]; exact Int.max_comm _ _
theorem m_assoc (a b c : List Int) : mergeL a (mergeL b c) = mergeL (mergeL a b) c := ext8 (mergeL_length _ _) (mergeL_length _ _) fun i h => by
  rw [mergeL_getD _ _ _ h, mergeL_getD _ _ _ h, mergeL_getD _ _ _ h, mergeL_getD _ _ _ h]; exact (Int.max_assoc _ _ _).symm
theorem m_self (a : List Int) (h : a.length = 8) : mergeL a a = a := ext8 (mergeL_length _ _) h fun i h => by rw [mergeL_getD _ _ _ h]; exact Int.max_self _
theorem le_left (a b : List Int) : leB a (mergeL a b) = true := (leB_iff _ _).2 fun i h => by rw [mergeL_getD _ _ _ h]; exact Int.le_max_left _ _
theorem le_right (a b : List Int) : leB b (mergeL a b) = true := (leB_iff _ _).2 fun i h => by rw [mergeL_getD _ _ _ h]; exact Int.le_max_right _ _
theorem le_both (a b c : List Int) (h1 : leB a c = true) (h2 : leB b c = true) : leB (mergeL a b) c = true := (leB_iff _ _).2 fun i h => by
  rw [mergeL_getD _ _ _ h]; exact Int.max_le.2 ⟨(leB_iff _ _).1 h1 i h, (leB_iff _ _).1 h2 i h⟩
theorem cmp_zero (a b : List Int) : (cmpL a b == 0) = (a == b) := by
  unfold cmpL
  by_cases h : a = b
  · simp [h]
  · rw [if_neg h, (beq_eq_false_iff_ne).2 h]
    split
    · rfl
    · split <;> rfl

theorem leQ {a b : List Int} (ha : a.length = 8) (hb : b.length = 8) (W0 : World) {r : Bool} (h : leB a b = r) : CallQ Try.prog 31 [vv a, vv b] W0 (.bool r) :=
  CallQ.mk' Try.func31 (by kernel_rfl) rfl fun x => h ▸ le_any a b ha hb x.w
theorem mergeQ {a b : List Int} (ha : a.length = 8) (hb : b.length = 8) (W0 : World) {r : List Int} (h : mergeL a b = r) : CallQ Try.prog 30 [vv a, vv b] W0 (vv r) :=
  CallQ.mk' Try.func30 (by kernel_rfl) rfl fun x => h ▸ merge_any a b ha hb x.w
theorem cmpQ {a b : List Int} (ha : a.length = 8) (hb : b.length = 8) (W0 : World) {r : Int} (h : cmpL a b = r) : CallQ Try.prog 32 [vv a, vv b] W0 (.int .i64 r) :=
  CallQ.mk' Try.func32 (by kernel_rfl) rfl fun x => h ▸ cmp_any a b ha hb x.w
theorem infoV {a : List Int} (ha : a.length = 8) : (Try.prog.info? 39).map (·.size) = some (a.map (Value.int .i64)).length := by rw [List.length_map, ha]; kernel_rfl
theorem boxV {W : World} {g : Nat} {a : List Int} (ha : a.length = 8) (h : W.rangeAt g 0 (a.map (Value.int .i64))) : LoadQ Try.prog 39 W (.pointer (some ⟨g, 0, none⟩)) (vv a) :=
  LoadQ.of Try.underlying39 rfl (infoV ha) h

set_option maxRecDepth 100000 in
set_option maxHeartbeats 20000000 in
theorem walkMain (a b c m : List Int) (b1 b2 b3 b4 b5 : Bool) (r : Int) (ha : a.length = 8) (hb : b.length = 8) (hc : c.length = 8) (hm : mergeL a b = m) (h1 : leB a c = b1) (h2 : leB b c = b2) (h3 : leB m c = b3) (h4 : (a == b) = b4) (h5 : cmpL a b = r) (h6 : (r == 0) = b5)
    (hk : (b1 = false ∨ b1 = true ∧ b2 = false ∨ b1 = true ∧ b2 = true ∧ b3 = true) ∧ b4 = b5) (w : World) :
    Calls Try.prog 6 #[vv a, vv b, vv c] w fun e w' => e = .returned (.bool true) ∧ Below w.heap.size w w' := by
  have hml : m.length = 8 := hm ▸ mergeL_length _ _
  have HA := Held.mk ha
  have HB := Held.mk hb
  have HC := Held.mk hc
  have HM := Held.mk hml
  have H1 := Held.mk h1
  have H2 := Held.mk h2
  have H3 := Held.mk h3
  have H4 := Held.mk h4
  have H5 := Held.mk h5
  have M0 := Held.mk hm
  have CM := Held.mk (fun w => hm ▸ merge_any a b ha hb w)
  have IA := Held.mk (infoV ha)
  have IB := Held.mk (infoV hb)
  have IM := Held.mk (infoV hml)
  have OM := Held.mk (show ∀ u ∈ m.map (Value.int .i64), u.oneCell' = true by intro u hu; obtain ⟨_, _, rfl⟩ := List.mem_map.1 hu; rfl)
  clear ha hb hc hml h1 h2 h3 h4 h5 hm
  have key : ∃ W, Held (W = ((w.alloc (.cells (a.map (Value.int .i64)).toArray 39)).alloc (.cells (b.map (Value.int .i64)).toArray 39)).alloc (.cells (c.map (Value.int .i64)).toArray 39)) ∧ Held (W.heap[w.heap.size]? = some (.cells (a.map (Value.int .i64)).toArray 39 (0, 0))) ∧
      Held (W.heap[w.heap.size + 1]? = some (.cells (b.map (Value.int .i64)).toArray 39 (0, 0))) ∧ Held (W.heap[w.heap.size + 2]? = some (.cells (c.map (Value.int .i64)).toArray 39 (0, 0))) ∧ Held (Below w.heap.size w W) ∧ w.heap.size + 3 ≤ W.heap.size :=
    ⟨_, ⟨rfl⟩, ⟨laid1 (laid1 (laid0 _ _) _) _⟩, ⟨laid1 (laidN _ (by simp) rfl) _⟩, ⟨laidN _ (by simp) rfl⟩, ⟨(((Below.refl _ _).alloc (Nat.le_refl _) _).alloc (by simp) _).alloc (by simp; omega) _⟩, by simp⟩
  obtain ⟨W, hW, GA, GB, GC, HL, hs⟩ := key
  go_enter Try.func6, Try.ntmps6
  go_wp2_with (first
    | rw [← hW.out]
    | (go_at_call 29; refine (awake15_any _).mono ?_; rintro e w1 ⟨rfl, hb1⟩)
    | (refine wpList_loadB rfl rfl ((hb1.block _ (by omega)).trans GA.out) rfl Try.underlying39 rfl IA.out ?_)
    | (refine wpList_loadB rfl rfl ((hb1.block _ (by omega)).trans GB.out) rfl Try.underlying39 rfl IB.out ?_)
    | (go_at_call 30; refine (CM.out _).mono ?_; rintro e w2 ⟨rfl, hb2⟩)
    | (refine wpList_storeB rfl rfl rfl (laid0 w2 _) (by rw [List.length_map, HM.out]; rfl) rfl rfl IM.out OM.out ?_; intro w3 hr3 ht3 hf3 hs3))
  have bw2 : Below w.heap.size w w2 := (HL.out.trans (hb1.mono HL.out.size)).trans (hb2.mono (Nat.le_trans HL.out.size hb1.size))
  have hw1 := hb1.size
  have hw2 := hb2.size
  have back : ∀ {g : Nat} {o : Obj}, g < W.heap.size → W.heap[g]? = some o → w3.heap[g]? = some o := fun {g o} hg h => by
    rw [hf3.block _ (by simp; omega) (by omega), laid1 (A := o) (by rw [hb2.block _ (by omega), hb1.block _ hg]; exact h)]
  have LA := boxV HA.out (W := w3) (g := w.heap.size) (by have := rangeAt_of (back (by omega) GA.out); simpa using this)
  have LB := boxV HB.out (W := w3) (g := w.heap.size + 1) (by have := rangeAt_of (back (by omega) GB.out); simpa using this)
  have LC := boxV HC.out (W := w3) (g := w.heap.size + 2) (by have := rangeAt_of (back (by omega) GC.out); simpa using this)
  have LM := boxV HM.out (W := w3) hr3
  have hbel : Below w.heap.size w w3 := (bw2.alloc bw2.size _).trans (hf3.below (by simp; have := bw2.size; omega) (fun i hi e => by have := bw2.size; omega))
  have q1 : CallQ Try.prog 31 [vv a, vv m] w3 (.bool true) := leQ HA.out HM.out w3 (M0.out ▸ le_left a b)
  have q2 : CallQ Try.prog 31 [vv b, vv m] w3 (.bool true) := leQ HB.out HM.out w3 (M0.out ▸ le_right a b)
  have q3 : CallQ Try.prog 30 [vv b, vv a] w3 (vv m) := mergeQ HB.out HA.out w3 ((m_comm a b).trans M0.out)
  have em := eqV m m HM.out HM.out
  obtain ⟨x, hx⟩ : ∃ x, mergeL m c = x := ⟨_, rfl⟩
  obtain ⟨y, hy⟩ : ∃ y, mergeL b c = y := ⟨_, rfl⟩
  have hxl : x.length = 8 := hx ▸ mergeL_length _ _
  have hyl : y.length = 8 := hy ▸ mergeL_length _ _
  have ex := eqV x x hxl hxl
  have ea := eqV a a HA.out HA.out
  rw [beq_self_eq_true] at em ex ea
  have q4 : CallQ Try.prog 30 [vv m, vv c] w3 (vv x) := mergeQ HM.out HC.out w3 hx
  have q5 : CallQ Try.prog 30 [vv b, vv c] w3 (vv y) := mergeQ HB.out HC.out w3 hy
  have q6 : CallQ Try.prog 30 [vv a, vv y] w3 (vv x) := mergeQ HA.out hyl w3 (by rw [← hy, m_assoc, M0.out, hx])
  have q7 : CallQ Try.prog 30 [vv a, vv a] w3 (vv a) := mergeQ HA.out HA.out w3 (m_self a HA.out)
  have q8 : CallQ Try.prog 31 [vv a, vv c] w3 (.bool b1) := leQ HA.out HC.out w3 H1.out
  have q9 : CallQ Try.prog 31 [vv b, vv c] w3 (.bool b2) := leQ HB.out HC.out w3 H2.out
  have q10 : CallQ Try.prog 31 [vv m, vv c] w3 (.bool b3) := leQ HM.out HC.out w3 H3.out
  have q11 : CallQ Try.prog 32 [vv a, vv b] w3 (.int .i64 r) := cmpQ HA.out HB.out w3 H5.out
  have eab := eqV a b HA.out HB.out
  rw [H4.out] at eab
  clear hx hy hf3 hs3 ht3 hr3 back bw2
  generalize vv a = va at *
  generalize vv b = vb at *
  generalize vv c = vc at *
  generalize vv m = vm at *
  generalize vv x = vx at *
  generalize vv y = vy at *
  obtain ⟨hk, rfl⟩ := hk
  rcases hk with rfl | ⟨rfl, rfl⟩ | ⟨rfl, rfl, rfl⟩
  all_goals
    refine wp_region_q (by kernel_rfl) (by kernel_rfl) ?_
    repeat (first
     | go_big_quiet_skip
     | (go_big_quiet_want; first
       | (refine quiet_call (by assumption) rfl ?_; go_big_quiet_op; go_big_quiet_on)
       | (refine quiet_load rfl (by assumption) ?_; go_big_quiet_op; go_big_quiet_on)
       | (refine quiet_eql rfl rfl (by assumption) ?_; go_big_quiet_op; go_big_quiet_on)
       | (go_big_quiet_op; go_big_quiet_on)))
    refine wpQuiet_nil (fun x => ?_)
    go_wp2
    go_ret
    refine ⟨?_, hbel.trans (x.below.mono hbel.size)⟩
    first
      | rfl
      | (refine congrArg (fun b => Ending.returned (Value.bool b)) ?_; simp [h6])
      | (simp [h6])
theorem walk (a : List Int) (ha : a.length = 8) (_ia : ∀ x ∈ a, I64 x) (b : List Int) (hb : b.length = 8) (_ib : ∀ x ∈ b, I64 x) (c : List Int) (hc : c.length = 8) (_ic : ∀ x ∈ c, I64 x) (w : World) :
    Calls Try.prog 6 #[vv a, vv b, vv c] w fun e w' => e = .returned (.bool true) ∧ Below w.heap.size w w' := by
  refine walkMain a b c _ _ _ _ _ _ _ ha hb hc rfl rfl rfl rfl rfl rfl (cmp_zero a b) ⟨?_, rfl⟩ w
  cases h1 : leB a c
  · exact .inl rfl
  · cases h2 : leB b c
    · exact .inr (.inl ⟨rfl, rfl⟩)
    · exact .inr (.inr ⟨rfl, rfl, le_both a b c h1 h2⟩)
end Go.Proofs.Ytlmegcbiijkmaaa.vecMerges
