/- The law VecHas returns true, whatever the input. No condition. -/
import Derived.Test.YtlmegcbiijkmaaaVecLaws
import Derived.Test.YtlmegcbiijkmaaaSym
import Derived.Test.YtlmegcbiijkmaaaRows
import Derived.ProofKit
import Derived.OpenShut
namespace Go.Proofs.Ytlmegcbiijkmaaa.vecHas
open Go.ChangeShapes Go.WideShapes Go.ChangeAt Go.RowKit Go.Bx Go.Proofs.Ytlmegcbiijkmaaa

theorem leB_iff (a b : List Int) : leB a b = true ↔ ∀ i, i < 8 → a.getD i 0 ≤ b.getD i 0 := by simp only [leB, List.all_eq_true, List.mem_range, decide_eq_true_eq]
theorem has_m (a b : List Int) (d n : Int) : hasB (mergeL a b) d n = (hasB a d n || hasB b d n) := by
  unfold hasB
  cases hd : devB d
  · simp
  · have hd : 0 ≤ d ∧ d < 8 := by simpa [devB] using hd
    rw [mergeL_getD _ _ _ (by omega)]
    cases decide (1 ≤ n)
    · simp
    · rw [Bool.eq_iff_iff]; simp; omega
theorem has_le {a b : List Int} {d n : Int} (h : leB a b = true) (ha : hasB a d n = true) : hasB b d n = true := by
  unfold hasB devB at *
  simp only [Bool.and_eq_true, decide_eq_true_eq] at *
  have := (leB_iff _ _).1 h d.toNat (by omega)
  omega
theorem eight {a : List Int} (h : a.length = 8) : ∃ x0 x1 x2 x3 x4 x5 x6 x7, a = [x0, x1, x2, x3, x4, x5, x6, x7] := by
  match a, h with
  | [x0, x1, x2, x3, x4, x5, x6, x7], _ => exact ⟨_, _, _, _, _, _, _, _, rfl⟩
theorem sums {a b : List Int} (ha : a.length = 8) (hb : b.length = 8) (ga : goodB a = true) (gb : goodB b = true) : sumL (mergeL a b) ≤ sumL a + sumL b ∧ I64 (sumL a + sumL b) := by
  have gm : goodB (mergeL a b) = true := goodB_true fun i hi => by
    rw [mergeL_length] at hi
    rw [mergeL_getD _ _ _ hi]
    have := getD_le ga i; have := getD_le gb i
    omega
  simp only [sumL, ga, gb, gm, if_true]
  obtain ⟨x0, x1, x2, x3, x4, x5, x6, x7, rfl⟩ := eight ha
  obtain ⟨y0, y1, y2, y3, y4, y5, y6, y7, rfl⟩ := eight hb
  have e : mergeL [x0, x1, x2, x3, x4, x5, x6, x7] [y0, y1, y2, y3, y4, y5, y6, y7] = [max x0 y0, max x1 y1, max x2 y2, max x3 y3, max x4 y4, max x5 y5, max x6 y6, max x7 y7] := rfl
  rw [e]
  simp only [goodB, List.all_cons, List.all_nil, Bool.and_true, Bool.and_eq_true, decide_eq_true_eq] at ga gb
  simp only [most] at ga gb
  simp only [List.sum_cons, List.sum_nil]
  exact ⟨by omega, by omega, by omega⟩
theorem cmps (a b : List Int) (ha : a.length = 8) (hb : b.length = 8) : (cmpL a b == 1) = (cmpL b a == -1) := by
  unfold cmpL
  by_cases h : a = b
  · subst h; simp
  · rw [if_neg h, if_neg (Ne.symm h)]
    cases h1 : leB a b <;> cases h2 : leB b a <;> simp
    exact h (ext8 ha hb fun i hi => by
      have e1 := (leB_iff _ _).1 h1 i hi
      have e2 := (leB_iff _ _).1 h2 i hi
      omega)

theorem leQ {a b : List Int} (ha : a.length = 8) (hb : b.length = 8) (W0 : World) {r : Bool} (h : leB a b = r) : CallQ Try.prog 31 [vv a, vv b] W0 (.bool r) :=
  CallQ.mk' Try.func31 (by kernel_rfl) rfl fun x => h ▸ le_any a b ha hb x.w
theorem hasQ {a : List Int} (d n : Int) (ha : a.length = 8) (W0 : World) {r : Bool} (h : hasB a d n = r) : CallQ Try.prog 33 [vv a, .agg #[.int .i64 d, .int .i64 n]] W0 (.bool r) :=
  CallQ.mk' Try.func33 (by kernel_rfl) rfl fun x => h ▸ has_any a d n ha x.w
theorem goodQ {a : List Int} (ha : a.length = 8) (W0 : World) {r : Bool} (h : goodB a = r) : CallQ Try.prog 34 [vv a] W0 (.bool r) :=
  CallQ.mk' Try.func34 (by kernel_rfl) rfl fun x => h ▸ good_any a ha x.w
theorem sumQ {a : List Int} (ha : a.length = 8) (W0 : World) : CallQ Try.prog 35 [vv a] W0 (.int .i64 (sumL a)) :=
  CallQ.mk' Try.func35 (by kernel_rfl) rfl fun x => sum_any a ha x.w
theorem cmpQ {a b : List Int} (ha : a.length = 8) (hb : b.length = 8) (W0 : World) : CallQ Try.prog 32 [vv a, vv b] W0 (.int .i64 (cmpL a b)) :=
  CallQ.mk' Try.func32 (by kernel_rfl) rfl fun x => cmp_any a b ha hb x.w
theorem infoV {a : List Int} (ha : a.length = 8) : (Try.prog.info? 39).map (·.size) = some (a.map (Value.int .i64)).length := by rw [List.length_map, ha]; kernel_rfl
theorem boxV {W : World} {g : Nat} {a : List Int} (ha : a.length = 8) (h : W.rangeAt g 0 (a.map (Value.int .i64))) : LoadQ Try.prog 39 W (.pointer (some ⟨g, 0, none⟩)) (vv a) :=
  LoadQ.of Try.underlying39 rfl (infoV ha) h
abbrev dot (d n : Int) : Value := .agg #[.int .i64 d, .int .i64 n]

def tX (hA : Bool) : SV := if hA then .bool true else .var 71
def tY (gA gB : Bool) : SV := if gA && gB then .bool true else .var 79
def tbl (hA gA gB : Bool) : List (SOp × SV) :=
  [(([0, 39], [.var 3]), .var 0), (([0, 39], [.var 4]), .var 1), (([0, 45], [.var 5]), .var 2), (([0, 39], [.var 7]), .var 70), (([1, 33], [.var 70, .var 2]), tX hA), (([1, 33], [.var 0, .var 2]), .bool hA), (([1, 33], [.var 1, .var 2]), .var 71), (([3, binN .eql, 4], [tX hA, tX hA]), .bool true),
    (([1, 34], [.var 0]), .bool gA), (([1, 34], [.var 1]), .bool gB), (([1, 32], [.var 0, .var 1]), .var 76), (([1, 32], [.var 1, .var 0]), .var 78), (([3, binN .eql, 3], [.var 76, .int .i64 1]), .var 77), (([3, binN .eql, 3], [.var 78, .int .i64 (-1)]), .var 77), (([3, binN .eql, 4], [.var 77, .var 77]), .bool true),
    (([1, 35], [.var 70]), .var 72), (([1, 35], [.var 0]), .var 73), (([1, 35], [.var 1]), .var 74), (([3, binN .add, 2], [.var 73, .var 74]), .var 75), (([3, binN .leq, 2], [.var 72, .var 75]), tY gA gB)]
set_option maxRecDepth 100000 in
set_option maxHeartbeats 20000000 in
theorem walkMain (a b m : List Int) (d n : Int) (e1 hA hB gA gB : Bool) (ha : a.length = 8) (hb : b.length = 8) (hm : mergeL a b = m) (h1 : leB a b = e1) (h2 : hasB a d n = hA) (h3 : hasB b d n = hB) (h4 : goodB a = gA) (h5 : goodB b = gB)
    (hk : (e1 = false ∨ e1 = true ∧ hA = false ∨ e1 = true ∧ hA = true ∧ hB = true)) (w : World) :
    Calls Try.prog 7 #[vv a, vv b, dot d n] w fun e w' => e = .returned (.bool true) ∧ Below w.heap.size w w' := by
  have hml : m.length = 8 := hm ▸ mergeL_length _ _
  have HA := Held.mk ha
  have HB := Held.mk hb
  have HM := Held.mk hml
  have H2 := Held.mk h2
  have H3 := Held.mk h3
  have H4 := Held.mk h4
  have H5 := Held.mk h5
  have M0 := Held.mk hm
  have CM := Held.mk (fun w => hm ▸ merge_any a b ha hb w)
  have CL := Held.mk (fun w => h1 ▸ le_any a b ha hb w)
  have CA := Held.mk (fun w => h2 ▸ has_any a d n ha w)
  have CB := Held.mk (fun w => h3 ▸ has_any b d n hb w)
  have IA := Held.mk (infoV ha)
  have IB := Held.mk (infoV hb)
  have IM := Held.mk (infoV hml)
  have ID := Held.mk (show (Try.prog.info? 45).map (·.size) = some [Value.int .i64 d, Value.int .i64 n].length by kernel_rfl)
  have OM := Held.mk (show ∀ u ∈ m.map (Value.int .i64), u.oneCell' = true by intro u hu; obtain ⟨_, _, rfl⟩ := List.mem_map.1 hu; rfl)
  clear ha hb hml h1 h2 h3 h4 h5 hm
  have key : ∃ W, Held (W = ((w.alloc (.cells (a.map (Value.int .i64)).toArray 39)).alloc (.cells (b.map (Value.int .i64)).toArray 39)).alloc (.cells #[.int .i64 d, .int .i64 n] 45)) ∧ Held (W.heap[w.heap.size]? = some (.cells (a.map (Value.int .i64)).toArray 39 (0, 0))) ∧
      Held (W.heap[w.heap.size + 1]? = some (.cells (b.map (Value.int .i64)).toArray 39 (0, 0))) ∧ Held (W.heap[w.heap.size + 2]? = some (.cells [Value.int .i64 d, Value.int .i64 n].toArray 45 (0, 0))) ∧ Held (Below w.heap.size w W) ∧ w.heap.size + 3 ≤ W.heap.size :=
    ⟨_, ⟨rfl⟩, ⟨laid1 (laid1 (laid0 _ _) _) _⟩, ⟨laid1 (laidN _ (by simp) rfl) _⟩, ⟨laidN _ (by simp) rfl⟩, ⟨(((Below.refl _ _).alloc (Nat.le_refl _) _).alloc (by simp) _).alloc (by simp; omega) _⟩, by simp⟩
  obtain ⟨W, hW, GA, GB, GD, HL, hs⟩ := key
  rcases hk with he | ⟨he, hA'⟩ | ⟨he, hA', hB'⟩
  all_goals rw [he] at CL
  all_goals (try rw [hA'] at CA)
  all_goals (try rw [hB'] at CB)
  all_goals (try clear hA')
  all_goals (try clear hB')
  all_goals clear he
  all_goals
    go_enter Try.func7, Try.ntmps7
    go_wp2_with (first
      | rw [← hW.out]
      | (go_at_call 29; refine (awake15_any _).mono ?_; rintro e w1 ⟨rfl, hb1⟩; have B1 : Held (Below w.heap.size w w1 ∧ W.heap.size ≤ w1.heap.size ∧ ∀ k, k < W.heap.size → w1.heap[k]? = W.heap[k]?) := ⟨HL.out.trans (hb1.mono HL.out.size), hb1.size, hb1.block⟩; clear hb1)
      | (refine wpList_loadB rfl rfl ((B1.out.2.2 _ (by omega)).trans GA.out) rfl Try.underlying39 rfl IA.out ?_)
      | (refine wpList_loadB rfl rfl ((B1.out.2.2 _ (by omega)).trans GB.out) rfl Try.underlying39 rfl IB.out ?_)
      | (refine wpList_loadB rfl rfl ((B1.out.2.2 _ (by omega)).trans GD.out) rfl Try.underlying45 rfl ID.out ?_)
      | (go_at_call 31; refine (CL.out _).mono ?_; rintro e w2 ⟨rfl, hb2⟩; replace B1 : Held (Below w.heap.size w w2 ∧ W.heap.size ≤ w2.heap.size ∧ ∀ k, k < W.heap.size → w2.heap[k]? = W.heap[k]?) := ⟨B1.out.1.trans (hb2.mono B1.out.1.size), Nat.le_trans B1.out.2.1 hb2.size, fun k hk => (hb2.block k (Nat.lt_of_lt_of_le hk B1.out.2.1)).trans (B1.out.2.2 k hk)⟩; clear hb2)
      | (go_at_call 33; have zz := B3; clear zz; refine (CB.out _).mono ?_; rintro e w4 ⟨rfl, hb4⟩; replace B1 : Held (Below w.heap.size w w4 ∧ W.heap.size ≤ w4.heap.size ∧ ∀ k, k < W.heap.size → w4.heap[k]? = W.heap[k]?) := ⟨B1.out.1.trans (hb4.mono B1.out.1.size), Nat.le_trans B1.out.2.1 hb4.size, fun k hk => (hb4.block k (Nat.lt_of_lt_of_le hk B1.out.2.1)).trans (B1.out.2.2 k hk)⟩; clear hb4)
      | (go_at_call 33; refine (CA.out _).mono ?_; rintro e w3 ⟨rfl, hb3⟩; have B3 : Held True := ⟨trivial⟩; replace B1 : Held (Below w.heap.size w w3 ∧ W.heap.size ≤ w3.heap.size ∧ ∀ k, k < W.heap.size → w3.heap[k]? = W.heap[k]?) := ⟨B1.out.1.trans (hb3.mono B1.out.1.size), Nat.le_trans B1.out.2.1 hb3.size, fun k hk => (hb3.block k (Nat.lt_of_lt_of_le hk B1.out.2.1)).trans (B1.out.2.2 k hk)⟩; clear hb3)
      | (go_at_call 30; refine (CM.out _).mono ?_; rintro e w5 ⟨rfl, hb5⟩; replace B1 : Held (Below w.heap.size w w5 ∧ W.heap.size ≤ w5.heap.size ∧ ∀ k, k < W.heap.size → w5.heap[k]? = W.heap[k]?) := ⟨B1.out.1.trans (hb5.mono B1.out.1.size), Nat.le_trans B1.out.2.1 hb5.size, fun k hk => (hb5.block k (Nat.lt_of_lt_of_le hk B1.out.2.1)).trans (B1.out.2.2 k hk)⟩; clear hb5)
      | (refine wpList_storeB rfl rfl rfl (laid0 w5 _) (by rw [List.length_map, HM.out]; rfl) rfl rfl IM.out OM.out ?_; intro w6 hr6 ht6 hf6 hs6))
    have b5 := B1.out
    have back : ∀ {g : Nat} {o : Obj}, g < W.heap.size → W.heap[g]? = some o → w6.heap[g]? = some o := fun {g o} hg h => by
      rw [hf6.block _ (by simp; omega) (by omega), laid1 (A := o) (by rw [b5.2.2 _ hg]; exact h)]
    have LA := boxV HA.out (W := w6) (g := w.heap.size) (by have := rangeAt_of (back (by omega) GA.out); simpa using this)
    have LB := boxV HB.out (W := w6) (g := w.heap.size + 1) (by have := rangeAt_of (back (by omega) GB.out); simpa using this)
    have LD : LoadQ Try.prog 45 w6 (.pointer (some ⟨w.heap.size + 2, 0, none⟩)) (dot d n) := LoadQ.of Try.underlying45 rfl ID.out (by have := rangeAt_of (back (by omega) GD.out); simpa using this)
    have LM := boxV HM.out (W := w6) hr6
    have hbel : Below w.heap.size w w6 := (b5.1.alloc b5.1.size _).trans (hf6.below (by simp; omega) (fun i hi e => by omega))
    have qa := hasQ d n HA.out w6 H2.out
    have qb := hasQ d n HB.out w6 H3.out
    have qm0 := hasQ (a := m) d n HM.out w6 rfl
    rw [← M0.out, has_m, H2.out, H3.out, M0.out] at qm0
    have qga := goodQ HA.out w6 H4.out
    have qgb := goodQ HB.out w6 H5.out
    have qsa := sumQ HA.out w6
    have qsb := sumQ HB.out w6
    have qsm := sumQ HM.out w6
    have qc := cmpQ HA.out HB.out w6
    have qd := cmpQ HB.out HA.out w6
    have hcc := cmps a b HA.out HB.out
    have hsum : gA = true → gB = true → decide (sumL m ≤ IntKind.i64.wrap (sumL a + sumL b)) = true := fun h1 h2 => by
      have := sums HA.out HB.out (H4.out.trans h1) (H5.out.trans h2)
      rw [IntWalk.i64_left, IntWalk.wrap64_in _ ⟨this.2.lo, this.2.hi⟩, ← M0.out]
      exact decide_eq_true this.1
    refine wp_region_sym [vv m, .bool hB, .int .i64 (sumL m), .int .i64 (sumL a), .int .i64 (sumL b), .int .i64 (IntKind.i64.wrap (sumL a + sumL b)), .int .i64 (cmpL a b), .bool (cmpL a b == 1), .int .i64 (cmpL b a), .bool (decide (sumL m ≤ IntKind.i64.wrap (sumL a + sumL b)))] (tbl hA gA gB) (by kernel_rfl) (by kernel_rfl) ?_ 70 rfl 6 (.bool true) ?_ fun x t ht => ?_
    · exact (allF_cons (Fact.load LA) (allF_cons (Fact.load LB) (allF_cons (Fact.load LD) (allF_cons (Fact.load LM) (allF_cons (Fact.call (by cases hA <;> exact qm0)) (allF_cons (Fact.call qa) (allF_cons (Fact.call qb) (allF_cons (Fact.bin eqlN (by cases hA <;> exact BinQ.bool Try.underlying4 (by simp))) (allF_cons (Fact.call qga) (allF_cons (Fact.call qgb) (allF_cons (Fact.call qc) (allF_cons (Fact.call qd) (allF_cons (Fact.bin eqlN (BinQ.int rfl)) (allF_cons (Fact.bin eqlN (BinQ.int hcc.symm)) (allF_cons (Fact.bin eqlN (BinQ.bool Try.underlying4 (by simp))) (allF_cons (Fact.call qsm) (allF_cons (Fact.call qsa) (allF_cons (Fact.call qsb) (allF_cons (Fact.bin addN (BinQ.add rfl)) (allF_cons (Fact.bin leqN (by cases gA <;> cases gB <;> first | exact BinQ.leq (hsum rfl rfl) | exact BinQ.leq rfl)) allF_nil))))))))))))))))))))
    · cases hA <;> cases gA <;> cases gB <;> kernel_rfl
    · go_wp2
      go_ret
      exact ⟨by rw [ht]; rfl, hbel.trans (x.below.mono hbel.size)⟩
theorem walk (a : List Int) (ha : a.length = 8) (_ia : ∀ x ∈ a, I64 x) (b : List Int) (hb : b.length = 8) (_ib : ∀ x ∈ b, I64 x) (d n : Int) (_id : I64 d) (_in : I64 n) (w : World) :
    Calls Try.prog 7 #[vv a, vv b, dot d n] w fun e w' => e = .returned (.bool true) ∧ Below w.heap.size w w' := by
  refine walkMain a b _ d n _ _ _ _ _ ha hb rfl rfl rfl rfl rfl rfl ?_ w
  cases h1 : leB a b
  · exact .inl rfl
  · cases h2 : hasB a d n
    · exact .inr (.inl ⟨rfl, rfl⟩)
    · exact .inr (.inr ⟨rfl, rfl, has_le h1 h2⟩)
end Go.Proofs.Ytlmegcbiijkmaaa.vecHas
