/- VecSays: what else is shown of the paper's own; and the walk. No condition. -/
import Derived.Test.YtlmegcbiijkmaaaVecLaws
import Derived.Test.YtlmegcbiijkmaaaRdR
import Derived.Test.YtlmegcbiijkmaaaVecR
import Derived.Test.YtlmegcbiijkmaaaRel2
import Derived.RegionTactic
import Derived.BigRegion
namespace Go.Bx
open Go Go.RowKit
/-- wp_region_rel for two slots. -/
theorem wp_region_rel2 {P : Program} {id : Nat} {Q : Exit → Act → World → Prop} {slots : List Value} {defers : List Deferred} {w : World} {l : List Oper} (more : List Value) (m : Nat) (Φ : Nat → Value → World → Prop) (tbl : List (SOp × SV × List Nat)) (fr : List Fz)
    (hm : P.follows .mixedOrders = true) (hst : ∀ k v w w', Fr (fun _ => False) w w' → Φ k v w → Φ k v w')
    (ht : ∀ e ∈ tbl, FactR P w (slots ++ more) m Φ e.1 e.2.1 e.2.2) (hfz : ∀ f ∈ fr, FreshR P w (slots ++ more) m Φ f.k f.s f.deps) (n N : Nat) (hn : slots.length = n) (hN : (slots ++ more).length = N) (s s2 : Nat) (u u2 : SV)
    (hr : (let syms := symsR l tbl fr N n l []; allR l tbl fr N n m syms && SV.eqb (outR l syms s) u && decide (s < n) && (SV.eqb (outR l syms s2) u2 && decide (s2 < n))) = true)
    (h : ∀ (x : ExtW w) (t : Array Value) (φ : List Value), t.size = n → t.getD s Go.undef = u.den (slots ++ more ++ φ) → t.getD s2 Go.undef = u2.den (slots ++ more ++ φ) → (∀ d, wrt l d = none → t[d]? = slots[d]?) → (∀ k, u = .var (N + k) → Φ k (φ.getD k undef) x.w) → Q .normal ⟨t, defers⟩ x.w) : (Code.region id l.toArray true).wp P Q ⟨slots.toArray, defers⟩ w := by
  subst hn hN
  simp only [Bool.and_eq_true, decide_eq_true_eq] at hr
  obtain ⟨⟨⟨hall, hu⟩, hs⟩, hu2, hs2⟩ := hr
  generalize symsR l tbl fr (slots ++ more).length slots.length l [] = syms at *
  unfold allR at hall
  simp only [Bool.and_eq_true, decide_eq_true_eq, List.all_eq_true, List.mem_range] at hall
  obtain ⟨⟨hg, hnd⟩, hkm⟩ := hall
  have hg' : ∀ i o, l[i]? = some o → goodR l tbl fr (slots ++ more).length slots.length syms i o = true := fun i o ho => by
    have := hg i (List.getElem?_eq_some_iff.1 ho).1
    rw [ho] at this
    exact this
  refine wp_region_any hm (relAny (ops := l) (fr := fr) (defers := defers) rfl hst ht hfz hnd (fun f hf => by simpa using hkm f hf) hg' (fun listed a w' hl hJ => ?_) _ _ _ _ (by simp) (by simp) ?_)
  · obtain ⟨⟨φ, hφ, hsz, hdf, h1, h2, clo, h3⟩, x, rfl⟩ := hJ
    obtain ⟨t, d⟩ := a
    simp only at hsz hdf h1 h2
    subst hdf
    refine h ⟨x.w, x.fr⟩ t φ hsz ?_ ?_ (fun d hd => ?_) (fun k hk => ?_)
    · rw [← SV.eqb_eq hu]
      unfold outR
      split
      · rename_i i hi
        have hlt := (List.findIdx?_eq_some_iff_getElem.1 hi)
        obtain ⟨hil, hd, _⟩ := hlt
        have := h2 i l[i] s (List.getElem?_eq_getElem hil) (hl i hil) (by simpa using hd)
        rw [Array.getD_eq_getD_getElem?, this]; rfl
      · rename_i hi
        have := h1 s hs fun j hj => by rw [hi] at hj; cases hj
        rw [Array.getD_eq_getD_getElem?, this, List.append_assoc]
        simp [SV.den, List.getElem?_append_left hs]
    · rw [← SV.eqb_eq hu2]
      unfold outR
      split
      · rename_i i hi
        have hlt := (List.findIdx?_eq_some_iff_getElem.1 hi)
        obtain ⟨hil, hd, _⟩ := hlt
        have := h2 i l[i] s2 (List.getElem?_eq_getElem hil) (hl i hil) (by simpa using hd)
        rw [Array.getD_eq_getD_getElem?, this]; rfl
      · rename_i hi
        have := h1 s2 hs2 fun j hj => by rw [hi] at hj; cases hj
        rw [Array.getD_eq_getD_getElem?, this, List.append_assoc]
        simp [SV.den, List.getElem?_append_left hs2]
    · by_cases hlt : d < slots.length
      · exact h1 d hlt fun j hj => by rw [hd] at hj; cases hj
      · rw [Array.getElem?_eq_none (show t.size ≤ d from by rw [hsz]; exact Nat.le_of_not_lt hlt), List.getElem?_eq_none (Nat.le_of_not_lt hlt)]
    · have ho := (SV.eqb_eq hu).trans hk
      unfold outR at ho
      split at ho
      · rename_i i hi
        exact (h3 i k (hl i (List.findIdx?_eq_some_iff_getElem.1 hi).1) ho).1
      · have := SV.var.inj ho
        rw [List.length_append] at this
        omega
  · have hno : ∀ i, (Array.replicate l.toArray.size false).getD i false = false := fun i => by
      rw [Array.getD_eq_getD_getElem?, Array.getElem?_replicate]; split <;> rfl
    refine ⟨⟨List.replicate m undef, by simp, by simp, rfl, fun t ht _ => by simp, ?_, ?_, ?_⟩, ⟨⟨_, Fr.drew _ _⟩, rfl⟩⟩
    · intro i o d _ hl; rw [hno] at hl; cases hl
    · intro i o _ hl; rw [hno] at hl; cases hl
    · intro i k hl; rw [hno] at hl; cases hl
end Go.Bx
namespace Go.Proofs.Ytlmegcbiijkmaaa
open Go.RowKit Go.Bx
theorem nmRle : (Try.f43.name == "runtime.NumGoroutine") = false := by kernel_rfl
theorem cmpL_and {a b : List Int} (ha : a.length = 8) (hb : b.length = 8) : cmpL a b = if leB a b && leB b a then 0 else if leB a b then -1 else if leB b a then 1 else 2 := by
  unfold cmpL
  by_cases h : a = b
  · subst h
    have : leB a a = true := leB_true fun j hj => Int.le_refl _
    simp [this]
  · cases h1 : leB a b <;> cases h2 : leB b a <;> simp [h]
    exact h (ext8 ha hb fun i hi => by
      simp only [leB, List.all_eq_true, List.mem_range, decide_eq_true_eq] at h1 h2
      have := h1 i hi; have := h2 i hi
      omega)
set_option maxHeartbeats 2000000 in
theorem rcmp_any (a b : List Int) (ha : a.length = 8) (hb : b.length = 8) (w : World) :
    Calls Try.prog 44 #[vv a, vv b] w fun e w' => e = .returned (.int .i64 (cmpL a b)) ∧ Below w.heap.size w w' := by
  have hc := cmpL_and ha hb
  obtain ⟨e1, h1⟩ : ∃ e1, leB a b = e1 := ⟨_, rfl⟩
  obtain ⟨e2, h2⟩ : ∃ e2, leB b a = e2 := ⟨_, rfl⟩
  rw [h1, h2] at hc
  have L1 := Held.mk (fun w => rle_any a b ha hb w)
  have L2 := Held.mk (fun w => rle_any b a hb ha w)
  rw [h1] at L1
  rw [h2] at L2
  have HIa := Held.mk (show (Try.prog.info? 52).map (·.size) = some (a.map (Value.int .i64)).length by rw [List.length_map, ha]; kernel_rfl)
  have HIb := Held.mk (show (Try.prog.info? 52).map (·.size) = some (b.map (Value.int .i64)).length by rw [List.length_map, hb]; kernel_rfl)
  have HC := Held.mk hc
  clear ha hb h1 h2 hc
  have key : ∃ W, Held (W = (w.alloc (.cells (a.map (Value.int .i64)).toArray 52)).alloc (.cells (b.map (Value.int .i64)).toArray 52)) ∧ Held (W.heap[w.heap.size]? = some (.cells (a.map (Value.int .i64)).toArray 52 (0, 0))) ∧ Held (W.heap[w.heap.size + 1]? = some (.cells (b.map (Value.int .i64)).toArray 52 (0, 0))) ∧ Held (Below w.heap.size w W) ∧ w.heap.size + 2 ≤ W.heap.size :=
    ⟨_, ⟨rfl⟩, ⟨laid1 (laid0 _ _) _⟩, ⟨laidN _ (by simp) rfl⟩, ⟨((Below.refl _ _).alloc (Nat.le_refl _) _).alloc (by simp) _⟩, by simp⟩
  obtain ⟨W, hW, HA, HB, HL, hs⟩ := key
  go_enter Try.func44, Try.ntmps44
  go_wp2_with (first | rw [← hW.out])
  have fb : ∀ {w w' : World}, Below w.heap.size w w' → Fr (fun _ => False) w w' := fun h => Fr.ofBelow h _
  have RA : Held (W.rangeAt w.heap.size 0 (a.map (Value.int .i64))) := ⟨by have := rangeAt_of HA.out; simpa using this⟩
  have RB : Held (W.rangeAt (w.heap.size + 1) 0 (b.map (Value.int .i64))) := ⟨by have := rangeAt_of HB.out; simpa using this⟩
  refine wp_region_rel2 [vv a, vv b] 0 (fun _ _ _ => True) [(sop [0, 52] [.var 2], .var 22, []), (sop [0, 52] [.var 3], .var 23, []), (sop [1, 43] [.var 22, .var 23], .bool e1, []), (sop [1, 43] [.var 23, .var 22], .bool e2, [])] []
    (by kernel_rfl) (fun _ _ _ _ _ h => h) ?_ (fun f hf => by cases hf) 22 24 rfl rfl 5 6 (.bool e1) (.bool e2) ?_ fun x t φ hts h5 h6 hkeep _ => ?_
  · refine allFR_cons (FactR.load fun φ => LoadQ.of Try.underlying52 rfl HIa.out RA.out) (allFR_cons (FactR.load fun φ => LoadQ.of Try.underlying52 rfl HIb.out RB.out)
      (allFR_cons (FactR.call (IsFn.mk' Try.func43 (by kernel_rfl) rfl) fun φ x _ => (L1.out x.w).mono fun e w' ⟨he, hb⟩ => ⟨he, fb hb⟩) (allFR_cons (FactR.call (IsFn.mk' Try.func43 (by kernel_rfl) rfl) fun φ x _ => (L2.out x.w).mono fun e w' ⟨he, hb⟩ => ⟨he, fb hb⟩) allFR_nil)))
  · cases e1 <;> cases e2 <;> kernel_rfl
  have f4 : t.getD 4 Go.undef = .int .i64 0 := by rw [Array.getD_eq_getD_getElem?, hkeep 4 (by kernel_rfl)]; rfl
  have f5 : t.getD 5 Go.undef = .bool e1 := h5
  have f6 : t.getD 6 Go.undef = .bool e2 := h6
  have et := frame_lit t 22 hts [t.getD 0 Go.undef, t.getD 1 Go.undef, t.getD 2 Go.undef, t.getD 3 Go.undef, t.getD 4 Go.undef, t.getD 5 Go.undef, t.getD 6 Go.undef, t.getD 7 Go.undef, t.getD 8 Go.undef, t.getD 9 Go.undef, t.getD 10 Go.undef, t.getD 11 Go.undef, t.getD 12 Go.undef, t.getD 13 Go.undef, t.getD 14 Go.undef, t.getD 15 Go.undef, t.getD 16 Go.undef, t.getD 17 Go.undef, t.getD 18 Go.undef, t.getD 19 Go.undef, t.getD 20 Go.undef, t.getD 21 Go.undef] rfl
  rw [f4, f5, f6] at et
  rw [et]
  have B2 : Held (Below w.heap.size w x.w) := ⟨HL.out.trans (x.below.mono HL.out.size)⟩
  clear et h5 h6 f4 f5 f6 hkeep hts
  cases e1 <;> cases e2
  all_goals
    go_wp2
    go_ret
    exact ⟨by rw [HC.out]; rfl, B2.out⟩
end Go.Proofs.Ytlmegcbiijkmaaa
