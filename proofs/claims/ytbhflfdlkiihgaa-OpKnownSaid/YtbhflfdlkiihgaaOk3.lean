/- What is shown of the reader's functions, as objects. No condition. -/
import Derived.Test.YtbhflfdlkiihgaaOk2
import Derived.Test.YtbhflfdlkiihgaaVecR
namespace Go.Proofs.Ytbhflfdlkiihgaa
open Go.RowKit Go.Bx Go.Sx
set_option linter.unusedSimpArgs false
set_option linter.unusedVariables false
abbrev RS : Sh := .obj 74 [.bool]
def cRNum : Ctr := ⟨23, 20, [RS, .int .i64], [RS, .int .i64]⟩
def cRText : Ctr := ⟨25, 21, [RS, .int .i64], [RS, .strv]⟩
def cVGet : Ctr := ⟨24, 22, [RS], [RS, .arr .i64 8]⟩
def cClone : Ctr := ⟨46, 23, [.opq], [.opq]⟩
/-- A reader is an object. -/
theorem rdr_in {w : World} {g : Nat} {sv : Value} {s : List Int} (hl : s.length = 1 + [CK.bool].length) (hw : w.heap[g]? = some (.cells (sv :: ckVals (fun i => s.getD i 0) 1 [CK.bool]).toArray 74 (0, 0)))
    (hs : Sl w 1 sv (decZ (s.getD 0 0)).length (bvs (decZ (s.getD 0 0)))) (hne : 0 < (decZ (s.getD 0 0)).length → sv.ownBlock ≠ some g) :
    ∃ z b q, s = [z, b] ∧ Rdr w g q (decZ z) (decide (b ≠ 0)) ∧ (0 < (decZ z).length → sv.ownBlock = some q) := by
  match s, hl with
  | [z, b], _ =>
    obtain ⟨a, c, rfl⟩ := hs.form
    have hs' : Sl w 1 (.slice a (decZ z).length c) (decZ z).length (bvs (decZ z)) := hs
    by_cases hp : 0 < (decZ z).length
    · cases a with
      | none =>
        obtain ⟨_, a, cap, he, _, _, h0, _⟩ := hs'
        cases he
        have := h0 rfl
        omega
      | some ad => exact ⟨z, b, ad.block, rfl, ⟨_, ⟨_, rfl⟩, hw, hs, fun _ => ⟨rfl, fun e => hne hp (by rw [← e]; rfl)⟩⟩, fun _ => rfl⟩
    · exact ⟨z, b, 0, rfl, ⟨_, ⟨_, rfl⟩, hw, hs, fun h => absurd h hp⟩, fun h => absurd h hp⟩
/-- And as an object it stands afterwards. -/
theorem rdr_out {w' : World} {g q : Nat} {l l' : List UInt8} {bad' : Bool} {sv : Value} {G : Nat → Int} (h : Rdr w' g q l' bad') (hsv : 0 < l.length → sv.ownBlock = some q) (hl : l'.length ≤ l.length) (hm : l.length ≤ maxLen)
    (h0 : G 0 = codZ l') (h1 : G 1 = b2i bad') :
    ∃ sv' : Value, w'.heap[g]? = some (.cells (sv' :: ckVals G 1 [CK.bool]).toArray 74 (0, 0)) ∧ Str (G 0) ∧
      Sl w' 1 sv' (decZ (G 0)).length (bvs (decZ (G 0))) ∧ (0 < (decZ (G 0)).length → 0 < l.length ∧ sv'.ownBlock = sv.ownBlock) ∧ ckGoods G 1 [CK.bool] := by
  obtain ⟨sv', ⟨t, rfl⟩, hg, hs, hq⟩ := h.ex
  refine ⟨sv', ?_, ?_, ?_, ?_, ⟨trivial, trivial⟩⟩
  · show w'.heap[g]? = some (.cells #[sv', .bool (decide (G 1 ≠ 0))] _ _)
    rw [h1, b2i_ne]; exact hg
  · rw [h0]; exact Str.cod (by omega)
  · rw [h0, decZ_codZ]; exact hs
  · rw [h0, decZ_codZ]; intro hp; exact ⟨by omega, by rw [(hq hp).1, hsv (by omega)]⟩
theorem small_max {n : Nat} (h : n ≤ 1000000) : n ≤ maxLen := by unfold maxLen; omega
theorem numV_le (x : Int) (l : List UInt8) : numV x l ≤ x.toNat := by
  unfold numV dec
  cases h : decF 9 0 0 l with
  | none => exact Int.natCast_nonneg _
  | some p =>
    obtain ⟨v, r⟩ := p
    by_cases hv : v ≤ x.toNat
    · simp only [if_pos hv]; exact Int.ofNat_le.2 hv
    · simp only [if_neg hv]; exact Int.natCast_nonneg _
theorem numV_in (x : Int) (l : List UInt8) (h : InR .i64 x) : InR .i64 (numV x l) := by
  have h1 := numV_le x l
  have h2 := numV_nonneg x l
  have h3 := h.hi
  have h4 := h.lo
  simp only [hi, lo] at h3 h4
  exact ⟨by simp only [lo]; omega, by simp only [hi]; omega⟩
theorem numV_top (l : List UInt8) : InR .i64 (numV most l) := numV_in _ _ ⟨by decide, by decide⟩
theorem getV_len (l : List UInt8) (b : Bool) : (getV l b).length = 8 := by
  unfold getV; split
  · rfl
  · exact getW_length l 8
theorem getV_in (l : List UInt8) (b : Bool) : ∀ x ∈ getV l b, InR .i64 x := by
  unfold getV; split
  · intro x hx
    simp only [List.mem_cons, List.not_mem_nil, or_false] at hx
    rcases hx with rfl | rfl | rfl | rfl | rfl | rfl | rfl | rfl <;> exact ⟨by decide, by decide⟩
  · intro x hx
    simp only [getW, List.mem_map, List.mem_range] at hx
    obtain ⟨j, hj, rfl⟩ := hx
    rw [if_pos hj]; exact numV_top _
theorem eight {l : List Int} (h : l.length = 8) : ∃ a b c d e f g i, l = [a, b, c, d, e, f, g, i] := by
  match l, h with
  | [a, b, c, d, e, f, g, i], _ => exact ⟨a, b, c, d, e, f, g, i, rfl⟩
theorem okRNum : CtrOK Try.prog ofns cRNum := by
  intro w g sv s vs xs hl hw hz hs hne hg ha hp
  obtain ⟨z, b, q, rfl, hr, hq⟩ := rdr_in hl hw hs hne
  obtain ⟨v, x, rfl, rfl, ⟨n, rfl, rfl, hn⟩⟩ := open1 ha
  have hp : (decZ z).length ≤ 1000000 := hp
  refine .inl ⟨Try.f23, _, by kernel_rfl, by kernel_rfl, rfl, (rnum_any g q (decZ z) _ n w hr).mono ?_⟩
  rintro e w' ⟨rfl, ho, hf⟩
  obtain ⟨sv', p1, p2, p3, p4, p5⟩ := rdr_out (G := fun i => (ofns.g 20 [[z, b], [n]]).getD i 0) ho hq (numL_len n _) (small_max hp) rfl rfl
  exact ⟨_, rfl, sv', p1, p2, p3, p4, p5, rfl, ⟨numV_in n _ hn, trivial⟩, hf⟩
theorem okRText : CtrOK Try.prog ofns cRText := by
  intro w g sv s vs xs hl hw hz hs hne hg ha hp
  obtain ⟨z, b, q, rfl, hr, hq⟩ := rdr_in hl hw hs hne
  obtain ⟨v, x, rfl, rfl, ⟨n, rfl, rfl, hn⟩⟩ := open1 ha
  have hp : (decZ z).length ≤ 1000000 := hp
  refine .inl ⟨Try.f25, _, by kernel_rfl, by kernel_rfl, rfl, (rtext_any g q (decZ z) _ n w hr ⟨by omega⟩).mono ?_⟩
  rintro e w' ⟨rfl, ho, hf⟩
  obtain ⟨sv', p1, p2, p3, p4, p5⟩ := rdr_out (G := fun i => (ofns.g 21 [[z, b], [n]]).getD i 0) ho hq (bytL_len n _) (small_max hp) rfl rfl
  refine ⟨_, rfl, sv', p1, p2, p3, p4, p5, ?_, ⟨Str.cod (by have := bytV_len n (decZ z); have := small_max hp; omega), trivial⟩, hf⟩
  show Value.string ⟨(bytV n (decZ z)).toArray⟩ = .string ⟨(decZ (codZ (bytV n (decZ z)))).toArray⟩
  rw [decZ_codZ]
theorem okVGet : CtrOK Try.prog ofns cVGet := by
  intro w g sv s vs xs hl hw hz hs hne hg ha hp
  obtain ⟨z, b, q, rfl, hr, hq⟩ := rdr_in hl hw hs hne
  obtain ⟨rfl, rfl⟩ := open0 ha
  have hp : (decZ z).length ≤ 1000000 := hp
  refine .inl ⟨Try.f24, _, by kernel_rfl, by kernel_rfl, rfl, (get_any g q (decZ z) _ w hr).mono ?_⟩
  rintro e w' ⟨rfl, ho, hf⟩
  obtain ⟨sv', p1, p2, p3, p4, p5⟩ := rdr_out (G := fun i => (ofns.g 22 [[z, b]]).getD i 0) ho hq (rl_len _ 8) (small_max hp) rfl rfl
  refine ⟨_, rfl, sv', p1, p2, p3, p4, p5, ?_, ?_, hf⟩
  · obtain ⟨a0, a1, a2, a3, a4, a5, a6, a7, he⟩ := eight (getV_len (decZ z) (decide (b ≠ 0)))
    show vv (getV _ _) = Sh.val (fun i => (codZ (rl (decZ z) 8) :: b2i (rb (decZ z) (decide (b ≠ 0)) 8) :: getV (decZ z) (decide (b ≠ 0))).getD (2 + i) 0) 0 (.arr .i64 8)
    rw [he]; rfl
  · refine ⟨fun i hi => ?_, trivial⟩
    have h1 := getV_in (decZ z) (decide (b ≠ 0))
    have h2 := getV_len (decZ z) (decide (b ≠ 0))
    show InR .i64 ((codZ (rl (decZ z) 8) :: b2i (rb (decZ z) (decide (b ≠ 0)) 8) :: getV (decZ z) (decide (b ≠ 0))).getD (2 + (0 + i)) 0)
    rw [show 2 + (0 + i) = i + 1 + 1 from by omega, List.getD_cons_succ, List.getD_cons_succ, List.getD_eq_getElem?_getD, List.getElem?_eq_getElem (by omega)]
    exact h1 _ (List.getElem_mem _)
theorem okClone : CtrOK Try.prog ofns cClone := by
  intro w vs xs ha hp
  obtain ⟨v, x, rfl, rfl, ⟨z, rfl, hs, hstr⟩⟩ := open1 ha
  have hp : (decZ z).length ≤ 1000000 := hp
  refine .inl ⟨Try.f46, _, by kernel_rfl, by kernel_rfl, rfl, (clone_any v _ (decZ z) w hs ⟨by omega⟩).mono ?_⟩
  rintro e w' ⟨r, rfl, ho, hb⟩
  obtain ⟨a, b⟩ := res_opq (g := fun i => (ofns.g 23 [[z]]).getD i 0) (L := decZ z) ho (codZ_decZ hstr.1).symm (small_max hp)
  exact ⟨r, rfl, a, b, hb⟩
def OT4 : List Ctr := cRNum :: cRText :: cVGet :: cClone :: OT3
theorem okOT4 : ∀ c ∈ OT4, CtrOK Try.prog ofns c := by
  intro c hc
  simp only [OT4, List.mem_cons] at hc
  rcases hc with rfl | rfl | rfl | rfl | hc
  · exact okRNum
  · exact okRText
  · exact okVGet
  · exact okClone
  · exact okOT3 c hc
#print axioms okOT4
end Go.Proofs.Ytbhflfdlkiihgaa
