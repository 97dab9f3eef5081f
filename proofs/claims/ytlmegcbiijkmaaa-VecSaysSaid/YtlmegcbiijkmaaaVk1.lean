/- What is shown of numbers of devices: compared, merged, summed; the program's and the document's own. No condition. -/
import Derived.Test.YtlmegcbiijkmaaaOk7
import Derived.Test.YtlmegcbiijkmaaaVSa
import Derived.Test.YtlmegcbiijkmaaaVecLaws
namespace Go.Proofs.Ytlmegcbiijkmaaa
open Go.RowKit Go.Bx Go.Sx
set_option linter.unusedSimpArgs false
set_option linter.unusedVariables false
abbrev V8 : Sh := .arr .i64 8
def cMerge : Ctr := ⟨30, 50, [V8, V8], [V8]⟩
def cLe : Ctr := ⟨31, 51, [V8, V8], [.bool]⟩
def cCmp : Ctr := ⟨32, 52, [V8, V8], [.int .i64]⟩
def cSum : Ctr := ⟨35, 53, [V8], [.int .i64]⟩
def cPMerge : Ctr := ⟨42, 50, [V8, V8], [V8]⟩
def cPLe : Ctr := ⟨43, 51, [V8, V8], [.bool]⟩
def cPCmp : Ctr := ⟨44, 52, [V8, V8], [.int .i64]⟩
def cAwake15 : Ctr := ⟨29, 40, [], [.bool]⟩
theorem merge_good {a b : List Int} (ha : a.length = 8) (hb : b.length = 8) (h1 : ∀ z ∈ a, InR .i64 z) (h2 : ∀ z ∈ b, InR .i64 z) : ∀ i, i < 8 → InR .i64 ((mergeL a b).getD i 0) := by
  intro i hi
  have e1 := h1 (a.getD i 0) (by rw [List.getD_eq_getElem?_getD, List.getElem?_eq_getElem (by omega)]; exact List.getElem_mem _)
  have e2 := h2 (b.getD i 0) (by rw [List.getD_eq_getElem?_getD, List.getElem?_eq_getElem (by omega)]; exact List.getElem_mem _)
  have : (mergeL a b).getD i 0 = max (a.getD i 0) (b.getD i 0) := by simp [mergeL, hi]
  rw [this]
  rcases Int.le_total (a.getD i 0) (b.getD i 0) with h | h
  · rw [Int.max_eq_right h]; exact e2
  · rw [Int.max_eq_left h]; exact e1
theorem merge_val (a b : List Int) (G : Nat → Int) (hG : ∀ i, i < 8 → G i = (mergeL a b).getD i 0) : vv (mergeL a b) = .agg ((List.range 8).map fun i => Value.int .i64 (G i)).toArray := by
  suffices key : (mergeL a b).map (Value.int .i64) = (List.range 8).map fun i => Value.int .i64 (G i) by rw [vv, key]
  refine List.ext_getElem (by simp [mergeL]) fun i h1 h2 => ?_
  have hi : i < 8 := by simpa using h2
  have hl : i < (mergeL a b).length := by simpa [mergeL] using hi
  simp only [List.getElem_map, List.getElem_range]
  rw [hG i hi, List.getD_eq_getElem?_getD, List.getElem?_eq_getElem hl]
  rfl
theorem cmpL_in (a b : List Int) : InR .i64 (cmpL a b) := by
  unfold cmpL
  split
  · exact ⟨by decide, by decide⟩
  · split
    · exact ⟨by decide, by decide⟩
    · split <;> exact ⟨by decide, by decide⟩
theorem sumL_in {a : List Int} (ha : a.length = 8) : InR .i64 (sumL a) := by
  unfold sumL
  split
  · rename_i h
    obtain ⟨s0, s1, s2, s3, s4, s5, s6, s7, rfl⟩ := eight ha
    have hs := fun i => getD_le h i
    have u0 := hs 0
    have u1 := hs 1
    have u2 := hs 2
    have u3 := hs 3
    have u4 := hs 4
    have u5 := hs 5
    have u6 := hs 6
    have u7 := hs 7
    simp only [List.getD_cons_zero, List.getD_cons_succ, most] at u0 u1 u2 u3 u4 u5 u6 u7
    simp only [List.sum_cons, List.sum_nil]
    exact i64R (by omega) (by omega)
  · exact ⟨by decide, by decide⟩
theorem okMerge : CtrOK Try.prog ofns cMerge := by
  intro w vs xs ha _
  obtain ⟨v, u, x, y, rfl, rfl, ⟨hl, rfl, hi⟩, ⟨hl2, rfl, hi2⟩⟩ := open2 ha
  refine .inl ⟨Try.f30, _, by kernel_rfl, by kernel_rfl, rfl, (merge_any x y hl hl2 w).mono ?_⟩
  rintro e w' ⟨rfl, hb⟩
  exact ⟨_, rfl, merge_val x y _ fun i _ => by rw [Nat.zero_add]; rfl, ⟨fun i hh => by rw [Nat.zero_add]; exact merge_good hl hl2 hi hi2 i hh, trivial⟩, hb⟩
theorem okLe : CtrOK Try.prog ofns cLe := by
  intro w vs xs ha _
  obtain ⟨v, u, x, y, rfl, rfl, ⟨hl, rfl, _⟩, ⟨hl2, rfl, _⟩⟩ := open2 ha
  refine .inl ⟨Try.f31, _, by kernel_rfl, by kernel_rfl, rfl, (le_any x y hl hl2 w).mono ?_⟩
  rintro e w' ⟨rfl, hb⟩
  exact ⟨_, rfl, by show Value.bool (leB x y) = Value.bool (decide (b2i (leB x y) ≠ 0)); rw [b2i_ne], ⟨trivial, trivial⟩, hb⟩
theorem okCmp : CtrOK Try.prog ofns cCmp := by
  intro w vs xs ha _
  obtain ⟨v, u, x, y, rfl, rfl, ⟨hl, rfl, _⟩, ⟨hl2, rfl, _⟩⟩ := open2 ha
  refine .inl ⟨Try.f32, _, by kernel_rfl, by kernel_rfl, rfl, (cmp_any x y hl hl2 w).mono ?_⟩
  rintro e w' ⟨rfl, hb⟩
  exact ⟨_, rfl, rfl, ⟨cmpL_in x y, trivial⟩, hb⟩
theorem okSum : CtrOK Try.prog ofns cSum := by
  intro w vs xs ha _
  obtain ⟨v, x, rfl, rfl, ⟨hl, rfl, _⟩⟩ := open1 ha
  refine .inl ⟨Try.f35, _, by kernel_rfl, by kernel_rfl, rfl, (sum_any x hl w).mono ?_⟩
  rintro e w' ⟨rfl, hb⟩
  exact ⟨_, rfl, rfl, ⟨sumL_in hl, trivial⟩, hb⟩
theorem okPMerge : CtrOK Try.prog ofns cPMerge := by
  intro w vs xs ha _
  obtain ⟨v, u, x, y, rfl, rfl, ⟨hl, rfl, hi⟩, ⟨hl2, rfl, hi2⟩⟩ := open2 ha
  refine .inl ⟨Try.f42, _, by kernel_rfl, by kernel_rfl, rfl, (rmerge_any x y hl hl2 w).mono ?_⟩
  rintro e w' ⟨rfl, hb⟩
  exact ⟨_, rfl, merge_val x y _ fun i _ => by rw [Nat.zero_add]; rfl, ⟨fun i hh => by rw [Nat.zero_add]; exact merge_good hl hl2 hi hi2 i hh, trivial⟩, hb⟩
theorem okPLe : CtrOK Try.prog ofns cPLe := by
  intro w vs xs ha _
  obtain ⟨v, u, x, y, rfl, rfl, ⟨hl, rfl, _⟩, ⟨hl2, rfl, _⟩⟩ := open2 ha
  refine .inl ⟨Try.f43, _, by kernel_rfl, by kernel_rfl, rfl, (rle_any x y hl hl2 w).mono ?_⟩
  rintro e w' ⟨rfl, hb⟩
  exact ⟨_, rfl, by show Value.bool (leB x y) = Value.bool (decide (b2i (leB x y) ≠ 0)); rw [b2i_ne], ⟨trivial, trivial⟩, hb⟩
theorem okPCmp : CtrOK Try.prog ofns cPCmp := by
  intro w vs xs ha _
  obtain ⟨v, u, x, y, rfl, rfl, ⟨hl, rfl, _⟩, ⟨hl2, rfl, _⟩⟩ := open2 ha
  refine .inl ⟨Try.f44, _, by kernel_rfl, by kernel_rfl, rfl, (rcmp_any x y hl hl2 w).mono ?_⟩
  rintro e w' ⟨rfl, hb⟩
  exact ⟨_, rfl, rfl, ⟨cmpL_in x y, trivial⟩, hb⟩
theorem okAwake15 : CtrOK Try.prog ofns cAwake15 := by
  intro w vs xs ha _
  obtain ⟨rfl, rfl⟩ := open0 ha
  refine .inl ⟨Try.f29, _, by kernel_rfl, by kernel_rfl, rfl, (awake15_any w).mono ?_⟩
  rintro e w' ⟨rfl, hb⟩
  exact ⟨_, rfl, rfl, ⟨trivial, trivial⟩, hb⟩
def VT : List Ctr := [cAwake15, cVGood, cPGood, cHas, cPHas, cMerge, cPMerge, cLe, cPLe, cCmp, cPCmp, cSum, cVPut, cPPut, cVGet, c7Get, cClone]
theorem okVT : ∀ c ∈ VT, CtrOK Try.prog ofns c := by
  intro c hc
  simp only [VT, List.mem_cons, List.not_mem_nil, or_false] at hc
  rcases hc with rfl | rfl | rfl | rfl | rfl | rfl | rfl | rfl | rfl | rfl | rfl | rfl | rfl | rfl | rfl | rfl | rfl
  · exact okAwake15
  · exact okVGood
  · exact okPGood
  · exact okHas
  · exact okPHas
  · exact okMerge
  · exact okPMerge
  · exact okLe
  · exact okPLe
  · exact okCmp
  · exact okPCmp
  · exact okSum
  · exact okVPut
  · exact okPPut
  · exact okVGet
  · exact ok7Get
  · exact okClone
#print axioms okVT
end Go.Proofs.Ytlmegcbiijkmaaa
