/- More of stretches of the reckoned integers; numbers by their highest digit. No condition. -/
import Derived.Test.YtfobnajgnnccmaaSxS
namespace Go.Bx
theorem seg_mid (H A B : List Int) : seg (fun j => (H ++ (A ++ B)).getD j 0) H.length A.length = A := by
  rw [seg_list (by simp only [List.length_append]; omega), List.drop_left, List.take_left]
theorem seg_end (H A B : List Int) : seg (fun j => (H ++ (A ++ B)).getD j 0) (H.length + A.length) B.length = B := by
  rw [seg_list (by simp only [List.length_append]; omega), ← List.append_assoc, ← List.length_append, List.drop_left, List.take_length]
/-- A number is at least another one: by the highest digit in which they differ. -/
theorem top_diff : ∀ {a b : List Int}, a.length = b.length → a = b ∨ ∃ k, k < a.length ∧ a.getD k 0 ≠ b.getD k 0 ∧ a.drop (k + 1) = b.drop (k + 1)
  | [], [], _ => .inl rfl
  | x :: a, y :: b, h => by
    rcases top_diff (a := a) (b := b) (by simpa using h) with e | ⟨k, h1, h2, h3⟩
    · by_cases q : x = y
      · exact .inl (by rw [q, e])
      · exact .inr ⟨0, by simp, q, e⟩
    · exact .inr ⟨k + 1, by simpa using h1, h2, h3⟩
theorem dv_cut {b : Int} {l : List Int} {k : Nat} (h : k < l.length) : dv b l = dv b (l.take k) + b ^ k * l.getD k 0 + b ^ (k + 1) * dv b (l.drop (k + 1)) := by
  have e : l = l.take (k + 1) ++ l.drop (k + 1) := (List.take_append_drop _ _).symm
  have h1 : (l.take (k + 1)).length = k + 1 := by rw [List.length_take]; omega
  have h2 : dv b l = dv b (l.take (k + 1)) + b ^ (l.take (k + 1)).length * dv b (l.drop (k + 1)) := by rw [← dv_append, ← e]
  rw [h2, h1, dv_take h]
theorem top_cmp {a b : List Int} (hl : a.length = b.length) (ha : Dig 256 a) (hb : Dig 256 b) {k : Nat} (hk : k < a.length) (hne : a.getD k 0 ≠ b.getD k 0) (hd : a.drop (k + 1) = b.drop (k + 1)) : dv 256 b ≤ dv 256 a ↔ b.getD k 0 < a.getD k 0 := by
  rw [dv_cut hk, dv_cut (l := b) (k := k) (by omega), hd]
  have b1 := dv_bound (b := 256) (by decide) (l := a.take k) ⟨fun x hx => ha.d x (List.mem_of_mem_take hx)⟩
  have b2 := dv_bound (b := 256) (by decide) (l := b.take k) ⟨fun x hx => hb.d x (List.mem_of_mem_take hx)⟩
  have l1 : (a.take k).length = k := by rw [List.length_take]; omega
  have l2 : (b.take k).length = k := by rw [List.length_take]; omega
  rw [l1] at b1; rw [l2] at b2
  generalize dv 256 (a.take k) = u at *
  generalize dv 256 (b.take k) = v at *
  generalize (256 : Int) ^ (k + 1) * dv 256 (b.drop (k + 1)) = z
  generalize (256 : Int) ^ k = w at *
  generalize a.getD k 0 = x at *
  generalize b.getD k 0 = y at *
  constructor
  · intro h
    rcases Int.lt_or_le y x with q | q
    · exact q
    · have : w * (x + 1) ≤ w * y := Int.mul_le_mul_of_nonneg_left (by omega) (by omega)
      rw [Int.mul_add] at this; omega
  · intro h
    have : w * (y + 1) ≤ w * x := Int.mul_le_mul_of_nonneg_left (by omega) (by omega)
    rw [Int.mul_add] at this; omega
theorem seg_drop_get {a b : List Int} {k j : Nat} (hd : a.drop (k + 1) = b.drop (k + 1)) (hj : k < j) : a.getD j 0 = b.getD j 0 := by
  have h1 : a.getD j 0 = (a.drop (k + 1)).getD (j - (k + 1)) 0 := by simp [List.getD_eq_getElem?_getD, show k + 1 + (j - (k + 1)) = j by omega]
  have h2 : b.getD j 0 = (b.drop (k + 1)).getD (j - (k + 1)) 0 := by simp [List.getD_eq_getElem?_getD, show k + 1 + (j - (k + 1)) = j by omega]
  rw [h1, h2, hd]
end Go.Bx
