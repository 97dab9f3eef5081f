/- Stretches of the reckoned integers. No condition. -/
import Derived.Test.YtfobnajgnnccmaaSxD
import Derived.Test.YtfobnajgnnccmaaPlainM
import Derived.Test.YtfobnajgnnccmaaSxL
namespace Go.Bx
/-- So many integers from a place on. -/
def seg (ρ : Nat → Int) (o m : Nat) : List Int := (List.range m).map fun i => ρ (o + i)
theorem seg_of {ρ : Nat → Int} {n m : Nat} {g : List Int} (h : ∀ i, i < m → ρ (n + i) = g.getD i 0) (hl : g.length = m) : seg ρ n m = g := (arr_eq hl h).symm
theorem seg_len (ρ : Nat → Int) (o m : Nat) : (seg ρ o m).length = m := by simp [seg]
theorem seg_get {ρ : Nat → Int} {o m i : Nat} (h : i < m) : (seg ρ o m).getD i 0 = ρ (o + i) := by
  simp [seg, List.getD_eq_getElem?_getD, h]
theorem seg_congr {ρ ρ' : Nat → Int} {o o' m : Nat} (h : ∀ i, i < m → ρ (o + i) = ρ' (o' + i)) : seg ρ o m = seg ρ' o' m :=
  List.map_congr_left fun i hi => h i (List.mem_range.1 hi)
theorem xs_drop {ρ : Nat → Int} {M o n : Nat} (h : o + n ≤ M) : ((Go.Sx.xs M ρ).drop o).take n = seg ρ o n := by
  apply List.ext_getElem
  · simp [Go.Sx.xs, seg]; omega
  · intro i h1 h2
    simp [Go.Sx.xs, seg]
theorem xs_get {ρ : Nat → Int} {M o : Nat} (h : o < M) : (Go.Sx.xs M ρ).getD o 0 = ρ o := by
  simp [Go.Sx.xs, List.getD_eq_getElem?_getD, h]
theorem seg_list {L : List Int} {o m : Nat} (h : o + m ≤ L.length) : seg (fun i => L.getD i 0) o m = (L.drop o).take m := by
  apply List.ext_getElem
  · simp [seg]; omega
  · intro i h1 h2
    simp [seg] at h1
    simp [seg, List.getD_eq_getElem?_getD, show o + i < L.length by omega]
theorem set_of {ρ : Nat → Int} {n i : Nat} {l : List Int} {x : Int} (h : ∀ j, j < l.length → ρ (n + j) = if j = i then x else l.getD j 0) : seg ρ n l.length = l.set i x := by
  refine seg_of (fun j hj => ?_) (List.length_set)
  rw [h j hj]
  simp only [List.getD_eq_getElem?_getD, List.getElem?_set]
  by_cases e : j = i
  · subst e; simp [hj]
  · rw [if_neg e, if_neg (Ne.symm e)]
theorem dv_set {b : Int} : ∀ {l : List Int} {i : Nat} {x : Int}, i < l.length → dv b (l.set i x) = dv b l + b ^ i * (x - l.getD i 0)
  | [], i, x, h => by simp at h
  | y :: l, 0, x, _ => by simp only [List.set_cons_zero, dv, List.getD_cons_zero, Int.pow_zero]; omega
  | y :: l, i + 1, x, h => by
    have ih := dv_set (b := b) (l := l) (i := i) (x := x) (by simpa using h)
    simp only [List.set_cons_succ, dv, List.getD_cons_succ]
    rw [ih, Int.mul_add, Int.pow_succ, Int.mul_comm (b ^ i) b, Int.mul_assoc]; omega
theorem dv_take {b : Int} {l : List Int} {i : Nat} (h : i < l.length) : dv b (l.take (i + 1)) = dv b (l.take i) + b ^ i * l.getD i 0 := by
  rw [List.take_add_one, List.getElem?_eq_getElem h, dv_append, List.length_take, Nat.min_eq_left (by omega), List.getD_eq_getElem?_getD, List.getElem?_eq_getElem h]
  simp [dv]
theorem getD_set {l : List Int} {i j : Nat} {x : Int} (h : i < l.length) : (l.set i x).getD j 0 = if j = i then x else l.getD j 0 := by
  simp only [List.getD_eq_getElem?_getD, List.getElem?_set]
  by_cases e : i = j
  · subst e; simp [h]
  · rw [if_neg e, if_neg (Ne.symm e)]
theorem getD_mem {l : List Int} {i : Nat} (h : i < l.length) : l.getD i 0 ∈ l := by
  rw [List.getD_eq_getElem?_getD, List.getElem?_eq_getElem h]; exact List.getElem_mem h
end Go.Bx
namespace Go.Sx
open Go Go.RowKit Go.Bx
theorem seg_inr {ρ : Nat → Int} {k : IntKind} {o m : Nat} (h : ∀ c ∈ (List.range m).map (fun i => C.int k (.v (o + i))), C.inr ρ c) : ∀ z ∈ seg ρ o m, InR k z := fun z hz => by
  obtain ⟨i, hi, rfl⟩ := List.mem_map.1 hz
  exact h (.int k (.v (o + i))) (List.mem_map.2 ⟨i, hi, rfl⟩)
end Go.Sx
