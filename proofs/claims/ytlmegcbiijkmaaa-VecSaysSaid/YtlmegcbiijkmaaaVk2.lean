/- Where the paper's reader stands, in plain words. No condition. -/
import Derived.Test.YtlmegcbiijkmaaaOk7
namespace Go.Proofs.Ytlmegcbiijkmaaa
open Go.RowKit Go.Bx Go.Sx
set_option linter.unusedSimpArgs false
set_option linter.unusedVariables false
theorem open4 {w : World} {s t r o : Sh} {vs : List Value} {xs : List (List Int)} (h : ArgsAre w [s, t, r, o] vs xs) : ∃ v u z k x y q p, vs = [v, u, z, k] ∧ xs = [x, y, q, p] ∧ ArgIs w s v x ∧ ArgIs w t u y ∧ ArgIs w r z q ∧ ArgIs w o k p := by
  match vs, xs, h with
  | v :: vs, x :: xs, h =>
    obtain ⟨u, z, k, y, q, p, rfl, rfl, h2, h3, h4⟩ := open3 h.2
    exact ⟨v, u, z, k, x, y, q, p, rfl, rfl, h.1, h2, h3, h4⟩
  | [], [], h => exact h.elim
  | [], _ :: _, h => exact h.elim
  | _ :: _, [], h => exact h.elim
theorem is_empty (l : List UInt8) : l.isEmpty = decide (((decZ (codZ l)).length : Int) = 0) := by
  rw [decZ_codZ]; cases l <;> simp <;> omega
/-- Where the paper's reader stands, and what is left. -/
structure St7 (z : Int) (l : List UInt8) (b : Bool) (p : Nat) : Prop where
  good : b = false → l <:+ decZ z ∧ p = (decZ z).length - l.length
  bad : b = true → l = []
  le : p ≤ (decZ z).length
theorem decF_tail (k : Nat) : ∀ (i v : Nat) (l : List UInt8) (r : Nat × List UInt8), decF k i v l = some r → r.2 <:+ l := by
  induction k with
  | zero => intro i v l r h; cases h
  | succ k ih =>
    intro i v l r h
    cases l with
    | nil => cases h
    | cons c l =>
      rw [decF] at h
      split at h
      · exact (ih _ _ _ _ h).trans (List.suffix_cons _ _)
      · split at h
        · cases h
        · cases h; exact List.suffix_cons _ _
theorem numL_tail {x : Int} {l : List UInt8} : numL x l <:+ l := by
  unfold numL dec
  cases h : decF 9 0 0 l with
  | none => exact List.nil_suffix
  | some r =>
    obtain ⟨v, r⟩ := r
    have := decF_tail _ _ _ _ _ h
    by_cases hm : v ≤ x.toNat
    · simp only [if_pos hm]; exact this
    · simp only [if_neg hm]; exact List.nil_suffix
theorem numB_mono {x : Int} {l : List UInt8} {b : Bool} (h : numB x l b = false) : b = false := by
  unfold numB at h
  split at h
  · exact h
  · cases h
theorem St7.next {z : Int} {l l' : List UInt8} {b b' : Bool} {p : Nat} (h : St7 z l b p) (h1 : b' = false → b = false) (h2 : l' <:+ l) (h3 : b' = true → l' = []) : St7 z l' b' (atP (dG z) p l' b') := by
  cases b'
  · obtain ⟨g1, g2⟩ := h.good (h1 rfl)
    exact ⟨fun _ => ⟨h2.trans g1, rfl⟩, (fun h => by cases h), Nat.sub_le _ _⟩
  · exact ⟨(fun h => by cases h), h3, h.le⟩
theorem num_bad' {z x : Int} {l : List UInt8} {b : Bool} {p : Nat} (h : St7 z l b p) (hb : numB x l b = true) : numL x l = [] := (num_bad h.bad hb).2
theorem St7.num {z x : Int} {l : List UInt8} {b : Bool} {p : Nat} (h : St7 z l b p) : St7 z (numL x l) (numB x l b) (atP (dG z) p (numL x l) (numB x l b)) := h.next numB_mono numL_tail (num_bad' h)
theorem bytB_mono {x : Int} {l : List UInt8} {b : Bool} (h : bytB x l b = false) : numB x l b = false := by
  unfold bytB takeB at h
  split at h
  · exact h
  · cases h
theorem St7.byt {z x : Int} {l : List UInt8} {b : Bool} {p : Nat} (h : St7 z l b p) : St7 z (bytL x l) (bytB x l b) (atB (dG z) p x l b) := by
  refine (h.num (x := x)).next bytB_mono ?_ fun hb => ?_
  · unfold bytL takeL; split
    · exact List.drop_suffix _ _
    · exact List.nil_suffix
  · unfold bytB takeB at hb
    unfold bytL takeL
    split at hb
    · rename_i hh; rw [if_pos hh, num_bad' h hb]; simp
    · rename_i hh; rw [if_neg hh]
theorem St7.vec {z : Int} {l : List UInt8} {b : Bool} {p : Nat} (h : St7 z l b p) : ∀ k, St7 z (rl l k) (rb l b k) (atV (dG z) p l b k)
  | 0 => h
  | k + 1 => (h.vec k).num
theorem St7.lP {z : Int} {l : List UInt8} {b : Bool} {p : Nat} (h : St7 z l b p) : lP z (p : Int) (b2i b) = l := by
  unfold Go.Proofs.Ytlmegcbiijkmaaa.lP
  rw [b2i_ne, Int.toNat_natCast]
  cases b
  · obtain ⟨g1, g2⟩ := h.good rfl
    show (decZ z).drop p = l
    rw [g2]; exact (List.suffix_iff_eq_drop.1 g1).symm
  · exact (h.bad rfl).symm
theorem St7.start (z : Int) : St7 z (decZ z) false 0 := ⟨fun _ => ⟨List.suffix_refl _, by omega⟩, (fun h => by cases h), Nat.zero_le _⟩
theorem St7.end {z : Int} {l : List UInt8} {p : Nat} (h : St7 z l false p) : decide ((p : Int) = ((decZ z).length : Int)) = l.isEmpty := by
  obtain ⟨g1, g2⟩ := h.good rfl
  have hl := g1.length_le
  cases l with
  | nil => simp at g2 ⊢; omega
  | cons c l => simp at g2 hl ⊢; omega
theorem g30a (z x : Int) : ofns.g 30 [[z, 0, 0], [x]] = [z, ((atP (dG z) 0 (numL x (decZ z)) (numB x (decZ z) false) : Nat) : Int), b2i (numB x (decZ z) false), numV x (decZ z)] := by
  have h := (St7.start z).lP
  show [_, _, _, _] = _
  rw [show lP z 0 0 = decZ z from h]; rfl
theorem g30b {z : Int} {l : List UInt8} {b : Bool} {p : Nat} (h : St7 z l b p) (x : Int) : ofns.g 30 [[z, (p : Int), b2i b], [x]] = [z, ((atP (dG z) p (numL x l) (numB x l b) : Nat) : Int), b2i (numB x l b), numV x l] := by
  show [_, _, _, _] = _
  rw [h.lP, b2i_ne, Int.toNat_natCast]
theorem g31b {z : Int} {l : List UInt8} {b : Bool} {p : Nat} (h : St7 z l b p) (x : Int) : ofns.g 31 [[z, (p : Int), b2i b], [x]] = [z, ((atB (dG z) p x l b : Nat) : Int), b2i (bytB x l b), codZ (bytV x l)] := by
  show [_, _, _, _] = _
  rw [h.lP, b2i_ne, Int.toNat_natCast]
theorem g32b {z : Int} {l : List UInt8} {b : Bool} {p : Nat} (h : St7 z l b p) : ofns.g 32 [[z, (p : Int), b2i b]] = z :: ((atV (dG z) p l b 8 : Nat) : Int) :: b2i (rb l b 8) :: getV l b := by
  show _ :: _ :: _ :: _ = _
  rw [h.lP, b2i_ne, Int.toNat_natCast]
end Go.Proofs.Ytlmegcbiijkmaaa
