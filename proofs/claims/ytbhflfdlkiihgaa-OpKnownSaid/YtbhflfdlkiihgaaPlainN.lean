/- Plain law of digits: a number by its digits to a base. No program, no condition. -/
import Derived.Lib.Mul64
namespace Go.Bx
/-- The number of the digits, the lowest first. -/
def dv (b : Int) : List Int → Int
  | [] => 0
  | x :: l => x + b * dv b l
/-- The digits of a number. -/
def dg (b : Int) : Nat → Int → List Int
  | 0, _ => []
  | k + 1, n => n % b :: dg b k (n / b)
structure Dig (b : Int) (l : List Int) : Prop where
  d : ∀ x ∈ l, 0 ≤ x ∧ x < b
theorem Dig.head {b x : Int} {l : List Int} (h : Dig b (x :: l)) : 0 ≤ x ∧ x < b := h.d x (by simp)
theorem Dig.tail {b x : Int} {l : List Int} (h : Dig b (x :: l)) : Dig b l := ⟨fun y hy => h.d y (by simp [hy])⟩
theorem Dig.cons {b x : Int} {l : List Int} (h0 : 0 ≤ x) (h1 : x < b) (h : Dig b l) : Dig b (x :: l) := ⟨fun y hy => by
  rcases List.mem_cons.1 hy with rfl | hy
  · exact ⟨h0, h1⟩
  · exact h.d y hy⟩
theorem Dig.nil {b : Int} : Dig b [] := ⟨fun y hy => by cases hy⟩
theorem dg_len (b : Int) : ∀ k n, (dg b k n).length = k
  | 0, _ => rfl
  | k + 1, n => by rw [dg, List.length_cons, dg_len]
theorem dg_dig {b : Int} (hb : 0 < b) : ∀ k n, Dig b (dg b k n)
  | 0, _ => Dig.nil
  | k + 1, n => Dig.cons (Int.emod_nonneg _ (by omega)) (Int.emod_lt_of_pos _ hb) (dg_dig hb k _)
theorem dv_bound {b : Int} (hb : 0 < b) : ∀ {l : List Int}, Dig b l → 0 ≤ dv b l ∧ dv b l < b ^ l.length
  | [], _ => ⟨Int.le_refl _, by simp [dv]⟩
  | x :: l, h => by
    obtain ⟨h1, h2⟩ := h.head
    obtain ⟨i1, i2⟩ := dv_bound hb h.tail
    have hm : 0 ≤ b * dv b l := Int.mul_nonneg (by omega) i1
    refine ⟨by rw [dv]; omega, ?_⟩
    rw [dv, List.length_cons, Int.pow_succ, Int.mul_comm (b ^ l.length) b]
    have : b * dv b l + b ≤ b * b ^ l.length := by
      have h3 : b * (dv b l + 1) ≤ b * b ^ l.length := Int.mul_le_mul_of_nonneg_left (by omega) (by omega)
      rw [Int.mul_add, Int.mul_one] at h3; exact h3
    omega
theorem dg_dv {b : Int} (hb : 0 < b) : ∀ {l : List Int}, Dig b l → dg b l.length (dv b l) = l
  | [], _ => rfl
  | x :: l, h => by
    obtain ⟨h1, h2⟩ := h.head
    rw [List.length_cons, dg, dv, Int.add_mul_emod_self_left, Int.emod_eq_of_lt h1 h2, Int.add_mul_ediv_left _ _ (by omega), Int.ediv_eq_zero_of_lt h1 h2, Int.zero_add, dg_dv hb h.tail]
theorem dv_dg {b : Int} (hb : 0 < b) : ∀ (k : Nat) (n : Int), dv b (dg b k n) = n % b ^ k
  | 0, n => by simp [dg, dv, Int.emod_one]
  | k + 1, n => by
    rw [dg, dv, dv_dg hb k, Int.pow_succ, Int.mul_comm (b ^ k) b, Int.emod_mul_left_eq hb]
where
  Int.emod_mul_left_eq {b n c : Int} (hb : 0 < b) : n % b + b * (n / b % c) = n % (b * c) := by
    have h1 : n % (b * c) = n - (b * c) * (n / (b * c)) := by have := Int.emod_add_mul_ediv n (b * c); omega
    have h2 : n / b % c = n / b - c * (n / b / c) := by have := Int.emod_add_mul_ediv (n / b) c; omega
    have h3 : n / (b * c) = n / b / c := (Int.ediv_ediv_of_nonneg (by omega)).symm
    have h4 : n % b = n - b * (n / b) := by have := Int.emod_add_mul_ediv n b; omega
    rw [h1, h2, h3, h4, Int.mul_sub, Int.mul_assoc]; omega
/-- Digits that come to a number are its digits. -/
theorem dg_eq {b : Int} (hb : 0 < b) {l : List Int} {k : Nat} {n : Int} (hl : l.length = k) (hd : Dig b l) (hv : dv b l = n) : l = dg b k n := by
  subst hl hv; exact (dg_dv hb hd).symm
theorem dv_append (b : Int) : ∀ (l m : List Int), dv b (l ++ m) = dv b l + b ^ l.length * dv b m
  | [], m => by simp [dv]
  | x :: l, m => by
    rw [List.cons_append, dv, dv_append b l m, dv, List.length_cons, Int.pow_succ, Int.mul_add, Int.mul_comm (b ^ l.length) b, Int.mul_assoc]; omega
theorem dg_mod {b : Int} (hb : 0 < b) (k : Nat) (n : Int) : dg b k (n % b ^ k) = dg b k n := by
  rw [← dv_dg hb k n]
  have := dg_dv hb (dg_dig hb k n)
  rw [dg_len] at this
  exact this
/-- Digits of digits. -/
theorem dg_flat {b : Int} (hb : 0 < b) (j : Nat) : ∀ (k : Nat) (n : Int), dg b (k * j) n = (dg (b ^ j) k n).flatMap fun x => dg b j x
  | 0, n => by simp [dg]
  | k + 1, n => by
    have split : ∀ (p q : Nat) (n : Int), dg b (p + q) n = dg b p n ++ dg b q (n / b ^ p) := by
      intro p
      induction p with
      | zero => intro q n; simp [dg]
      | succ p ih =>
        intro q n
        rw [show p + 1 + q = (p + q) + 1 by omega, dg, ih, dg, List.cons_append, Int.pow_succ, Int.mul_comm (b ^ p) b, Int.ediv_ediv_of_nonneg (by omega)]
    rw [dg, List.flatMap_cons, ← dg_flat hb j k, show (k + 1) * j = j + k * j by rw [Nat.add_mul, Nat.one_mul, Nat.add_comm], split, dg_mod hb]
theorem arr_eq {a : List Int} {n o : Nat} {ρ : Nat → Int} (hl : a.length = n) (h : ∀ i, i < n → ρ (o + i) = a.getD i 0) : a = (List.range n).map fun i => ρ (o + i) := by
  apply List.ext_getElem
  · simp [hl]
  · intro i h1 h2
    simp [h i (by omega), List.getD_eq_getElem?_getD, h1]
end Go.Bx
