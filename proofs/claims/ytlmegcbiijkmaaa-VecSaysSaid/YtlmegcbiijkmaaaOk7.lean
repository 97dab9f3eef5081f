/- What is shown of the paper's own reader, as an object, and of what it writes. No condition. -/
import Derived.Test.YtlmegcbiijkmaaaOk3
namespace Go.Proofs.Ytlmegcbiijkmaaa
open Go.RowKit Go.Bx Go.Sx
set_option linter.unusedSimpArgs false
set_option linter.unusedVariables false
abbrev RP : Sh := .obj 55 [.int .i64, .bool]
def c7Num : Ctr := ⟨60, 30, [RP, .int .i64], [RP, .int .i64]⟩
def c7Get : Ctr := ⟨38, 32, [RP], [RP, .arr .i64 8]⟩
def cPNum : Ctr := ⟨27, 1, [.opq, .int .i64], [.opq]⟩
def cPByt : Ctr := ⟨26, 8, [.opq, .opq], [.opq]⟩
def cPPut : Ctr := ⟨45, 3, [.opq, .arr .i64 8], [.opq]⟩
def cPGood : Ctr := ⟨40, 4, [.arr .i64 8], [.bool]⟩
def cPHas : Ctr := ⟨41, 6, [.arr .i64 8, .cells [.int .i64, .int .i64]], [.bool]⟩
/-- The paper's reader is an object. -/
theorem r7_in {w : World} {g : Nat} {sv : Value} {s : List Int} (hl : s.length = 1 + [CK.int .i64, CK.bool].length) (hw : w.heap[g]? = some (.cells (sv :: ckVals (fun i => s.getD i 0) 1 [CK.int .i64, CK.bool]).toArray 55 (0, 0)))
    (hs : Sl w 1 sv (decZ (s.getD 0 0)).length (bvs (decZ (s.getD 0 0)))) (hne : 0 < (decZ (s.getD 0 0)).length → sv.ownBlock ≠ some g) (hp : 0 ≤ s.getD 1 0 ∧ s.getD 1 0 ≤ ((decZ (s.getD 0 0)).length : Int)) (hm : (decZ (s.getD 0 0)).length ≤ 1000000) :
    ∃ z p b q, s = [z, p, b] ∧ R7 (sv, 55, decZ z) w g q p.toNat (lP z p b) (decide (b ≠ 0)) ∧ q < w.heap.size := by
  match s, hl with
  | [z, p, b], _ =>
    obtain ⟨a, c, rfl⟩ := hs.form
    have hs' : Sl w 1 (.slice a (decZ z).length c) (decZ z).length (bvs (decZ z)) := hs
    have hp : 0 ≤ p ∧ p ≤ ((decZ z).length : Int) := hp
    have hm : (decZ z).length ≤ 1000000 := hm
    have hg0 := (Array.getElem?_eq_some_iff.1 hw).1
    have hw2 : w.heap[g]? = some (.cells #[.slice a (decZ z).length c, .int .i64 ((p.toNat : Nat) : Int), .bool (decide (b ≠ 0))] 55 (0, 0)) := by
      rw [Int.toNat_of_nonneg hp.1]; exact hw
    have h1 : decide (b ≠ 0) = false → (decZ z).drop p.toNat = lP z p b := fun h => by unfold lP; rw [h]; rfl
    have h2 : decide (b ≠ 0) = true → lP z p b = [] := fun h => by unfold lP; rw [h]; rfl
    by_cases hpos : 0 < (decZ z).length
    · cases a with
      | none =>
        obtain ⟨_, a, cap, he, _, _, h0, _⟩ := hs'
        cases he
        have := h0 rfl
        omega
      | some ad => exact ⟨z, p, b, ad.block, rfl, ⟨_, _, _, rfl, hw2, hs, fun _ => ⟨rfl, fun e => hne hpos (by rw [← e]; rfl)⟩, by omega, h1, h2, by omega⟩, hs'.blk hpos rfl⟩
    · exact ⟨z, p, b, 0, rfl, ⟨_, _, _, rfl, hw2, hs, fun h => absurd h hpos, by omega, h1, h2, by omega⟩, by omega⟩
/-- And as an object it stands afterwards. -/
theorem r7_out {w' : World} {g q p' : Nat} {z : Int} {l' : List UInt8} {bad' : Bool} {sv : Value} {G : Nat → Int} (h : R7 (sv, 55, decZ z) w' g q p' l' bad') (hz : Str z)
    (hm : (decZ z).length ≤ 1000000) (h0 : G 0 = z) (h1 : G 1 = (p' : Int)) (h2 : G 2 = b2i bad') :
    w'.heap[g]? = some (.cells (sv :: ckVals G 1 [CK.int .i64, CK.bool]).toArray 55 (0, 0)) ∧ Str (G 0) ∧
      Sl w' 1 sv (decZ (G 0)).length (bvs (decZ (G 0))) ∧ (0 < (decZ (G 0)).length → 0 < (decZ z).length ∧ sv.ownBlock = sv.ownBlock) ∧ ckGoods G 1 [CK.int .i64, CK.bool] := by
  obtain ⟨sv', t, L, hG, hg, hs, hne, hp, hb0, hb1, hL⟩ := h.ex
  cases hG
  refine ⟨?_, by rw [h0]; exact hz, by rw [h0]; exact hs, by rw [h0]; exact fun h => ⟨h, rfl⟩, ⟨?_, trivial, trivial⟩⟩
  · show w'.heap[g]? = some (.cells #[sv, .int .i64 (G 1), .bool (decide (G 2 ≠ 0))] _ _)
    rw [h1, h2, b2i_ne]; exact hg
  · show InR .i64 (G 1)
    rw [h1]; exact i64R (by omega) (by omega)
theorem lP_len (z p b : Int) : (lP z p b).length ≤ (decZ z).length := by
  unfold lP; cases decide (b ≠ 0) <;> simp
theorem ok7Num : CtrOK Try.prog ofns c7Num := by
  intro w g sv s vs xs hl hw hz hs hne hg ha hp
  obtain ⟨v, x, rfl, rfl, ⟨n, rfl, rfl, hn⟩⟩ := open1 ha
  have hp' : (0 ≤ s.getD 1 0 ∧ s.getD 1 0 ≤ ((decZ (s.getD 0 0)).length : Int)) ∧ (decZ (s.getD 0 0)).length ≤ 1000000 ∧ 0 ≤ n := by
    match s, hl with
    | [z, p, b], _ => exact hp
  obtain ⟨z, p, b, q, rfl, hr, hq⟩ := r7_in hl hw hs hne hp'.1 hp'.2.1
  have hm : (decZ z).length ≤ 1000000 := hp'.2.1
  refine .inl ⟨Try.f60, _, by kernel_rfl, by kernel_rfl, rfl, (num7_any _ g q p.toNat (lP z p b) _ n hp'.2.2 w hr).mono ?_⟩
  rintro e w' ⟨rfl, ho, hf⟩
  obtain ⟨p1, p2, p3, p4, p5⟩ := r7_out (G := fun i => (ofns.g 30 [[z, p, b], [n]]).getD i 0) ho hz hm rfl rfl rfl
  exact ⟨_, rfl, sv, p1, p2, p3, p4, p5, rfl, ⟨numV_in n _ hn, trivial⟩, hf⟩
theorem ok7Get : CtrOK Try.prog ofns c7Get := by
  intro w g sv s vs xs hl hw hz hs hne hg ha hp
  obtain ⟨rfl, rfl⟩ := open0 ha
  have hp' : (0 ≤ s.getD 1 0 ∧ s.getD 1 0 ≤ ((decZ (s.getD 0 0)).length : Int)) ∧ (decZ (s.getD 0 0)).length ≤ 1000000 := by
    match s, hl with
    | [z, p, b], _ => exact hp
  obtain ⟨z, p, b, q, rfl, hr, hq⟩ := r7_in hl hw hs hne hp'.1 hp'.2
  have hm : (decZ z).length ≤ 1000000 := hp'.2
  refine .inl ⟨Try.f38, _, by kernel_rfl, by kernel_rfl, rfl, (get7_any _ g q p.toNat (lP z p b) _ w hr hq).mono ?_⟩
  rintro e w' ⟨rfl, ho, hf⟩
  obtain ⟨p1, p2, p3, p4, p5⟩ := r7_out (G := fun i => (ofns.g 32 [[z, p, b]]).getD i 0) ho hz hm rfl rfl rfl
  refine ⟨_, rfl, sv, p1, p2, p3, p4, p5, ?_, ?_, hf⟩
  · obtain ⟨a0, a1, a2, a3, a4, a5, a6, a7, he⟩ := eight (getV_len (lP z p b) (decide (b ≠ 0)))
    show vv (getV _ _) = Sh.val (fun i => (z :: ((atV (dG z) p.toNat (lP z p b) (decide (b ≠ 0)) 8 : Nat) : Int) :: b2i (rb (lP z p b) (decide (b ≠ 0)) 8) :: getV (lP z p b) (decide (b ≠ 0))).getD (3 + i) 0) 0 (.arr .i64 8)
    rw [he]; rfl
  · refine ⟨fun i hi => ?_, trivial⟩
    have h1 := getV_in (lP z p b) (decide (b ≠ 0))
    have h2 := getV_len (lP z p b) (decide (b ≠ 0))
    show InR .i64 ((z :: ((atV (dG z) p.toNat (lP z p b) (decide (b ≠ 0)) 8 : Nat) : Int) :: b2i (rb (lP z p b) (decide (b ≠ 0)) 8) :: getV (lP z p b) (decide (b ≠ 0))).getD (3 + (0 + i)) 0)
    rw [show 3 + (0 + i) = i + 1 + 1 + 1 from by omega, List.getD_cons_succ, List.getD_cons_succ, List.getD_cons_succ, List.getD_eq_getElem?_getD, List.getElem?_eq_getElem (by omega)]
    exact h1 _ (List.getElem_mem _)
theorem okPNum : CtrOK Try.prog ofns cPNum := by
  intro w vs xs ha hp
  obtain ⟨v, u, x, y, rfl, rfl, ⟨z, rfl, hs, hstr⟩, ⟨n, rfl, rfl, hn⟩⟩ := open2 ha
  have hp : (decZ z).length ≤ 1000000 := hp
  refine .inl ⟨Try.f27, _, by kernel_rfl, by kernel_rfl, rfl, (r11num_any v (decZ z) n w hs ⟨by omega⟩ (i64_of hn)).mono ?_⟩
  rintro e w' ⟨r, rfl, ho, hb⟩
  have hl : (decZ z ++ enc n.toNat).length ≤ maxLen := by have := enc_len n.toNat (by have := hn.hi; simp only [hi] at this; omega); rw [List.length_append]; unfold maxLen; omega
  obtain ⟨a, b⟩ := res_opq (g := fun i => (ofns.g 1 [[z], [n]]).getD i 0) ho rfl hl
  exact ⟨r, rfl, a, b, hb⟩
theorem okPByt : CtrOK Try.prog ofns cPByt := by
  intro w vs xs ha hp
  obtain ⟨v, u, x, y, rfl, rfl, ⟨z, rfl, hs, hstr⟩, ⟨n, rfl, hs2, hn⟩⟩ := open2 ha
  have hp : (decZ z).length ≤ 1000000 ∧ (decZ n).length ≤ 1000000 := hp
  refine .inl ⟨Try.f26, _, by kernel_rfl, by kernel_rfl, rfl, (r11bytes_any v u (decZ z) (decZ n) w hs hs2 ⟨by omega⟩).mono ?_⟩
  rintro e w' ⟨r, rfl, ho, hb⟩
  have hl : (decZ z ++ lenE (decZ n)).length ≤ maxLen := by have := enc_len (decZ n).length (by omega); simp only [lenE, List.length_append]; unfold maxLen; omega
  obtain ⟨a, b⟩ := res_opq (g := fun i => (ofns.g 8 [[z], [n]]).getD i 0) (L := decZ z ++ lenE (decZ n)) ho rfl hl
  exact ⟨r, rfl, a, b, hb⟩
theorem okPPut : CtrOK Try.prog ofns cPPut := by
  intro w vs xs ha hp
  obtain ⟨v, u, x, y, rfl, rfl, ⟨z, rfl, hs, hstr⟩, ⟨hl, rfl, hi⟩⟩ := open2 ha
  have hp : (decZ z).length ≤ 1000000 := hp
  refine .inl ⟨Try.f45, _, by kernel_rfl, by kernel_rfl, rfl, (put7_any v (decZ z) y hl (fun x hx => i64_of (hi x hx)) w hs ⟨by omega⟩).mono ?_⟩
  rintro e w' ⟨r, rfl, ho, hb⟩
  have hl : (putL (decZ z) y).length ≤ maxLen := by
    have h1 := len_put (z := z) (n := (decZ z).length) (Nat.le_refl _) hl hi
    rw [decZ_codZ] at h1
    unfold maxLen; omega
  obtain ⟨a, b⟩ := res_opq (g := fun i => (ofns.g 3 [[z], y]).getD i 0) ho rfl hl
  exact ⟨r, rfl, a, b, hb⟩
theorem okPGood : CtrOK Try.prog ofns cPGood := by
  intro w vs xs ha _
  obtain ⟨v, x, rfl, rfl, ⟨hl, rfl, _⟩⟩ := open1 ha
  refine .inl ⟨Try.f40, _, by kernel_rfl, by kernel_rfl, rfl, (rgood_any x hl w).mono ?_⟩
  rintro e w' ⟨rfl, hb⟩
  exact ⟨_, rfl, by show Value.bool (goodB x) = Value.bool (decide (b2i (goodB x) ≠ 0)); rw [b2i_ne], ⟨trivial, trivial⟩, hb⟩
theorem okPHas : CtrOK Try.prog ofns cPHas := by
  intro w vs xs ha hp
  obtain ⟨v, u, x, y, rfl, rfl, ⟨hl, rfl, _⟩, ⟨hl2, rfl, _⟩⟩ := open2 ha
  obtain ⟨d, n, rfl⟩ : ∃ d n, y = [d, n] := by
    match y, hl2 with
    | [d, n], _ => exact ⟨d, n, rfl⟩
  refine .inl ⟨Try.f41, _, by kernel_rfl, by kernel_rfl, rfl, (rhas_any x d n hl w).mono ?_⟩
  rintro e w' ⟨rfl, hb⟩
  exact ⟨_, rfl, by show Value.bool (hasB x d n) = Value.bool (decide (b2i (hasB x d n) ≠ 0)); rw [b2i_ne], ⟨trivial, trivial⟩, hb⟩
end Go.Proofs.Ytlmegcbiijkmaaa
