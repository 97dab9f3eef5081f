/- Points of the curve: they are added, in any order and together; how they are written and read. No condition. -/
import Derived.Test.YtfobnajgnnccmaaFk11
namespace Go.Bx
theorem assoc_x (x1 y1 x2 y2 x3 y3 d : Int) : ((x1*y2 + y1*x2)*(1 - d*x1*x2*y1*y2)*y3 + (y1*y2 + x1*x2)*(1 + d*x1*x2*y1*y2)*x3)*((1 + d*x2*x3*y2*y3)*(1 - d*x2*x3*y2*y3) + d*x1*y1*(x2*y3 + y2*x3)*(y2*y3 + x2*x3)) - (x1*(y2*y3 + x2*x3)*(1 + d*x2*x3*y2*y3) + y1*(x2*y3 + y2*x3)*(1 - d*x2*x3*y2*y3))*((1 + d*x1*x2*y1*y2)*(1 - d*x1*x2*y1*y2) + d*(x1*y2 + y1*x2)*(y1*y2 + x1*x2)*x3*y3) = ((-1*x1*x2*x2*x2*x2*y2*y2*y2*x3*x3*y3*d*d) + (-1*x1*x2*x2*x2*x2*y2*x3*x3*y3*d) + (-1*x1*x2*x2*x2*y2*y2*y2*y2*x3*y3*y3*d*d) + (-1*x1*x2*x2*x2*y2*y2*x3*x3*x3*d) + (-1*x1*x2*x2*x2*y2*y2*x3*d) + x1*x2*x2*y2*y2*y2*y3*y3*y3*d + (-1*x1*x2*x2*y2*y2*y2*y3*d) + x1*x2*y2*y2*y2*y2*x3*y3*y3*d + y1*x2*x2*x2*x2*y2*y2*y2*x3*y3*y3*d*d + y1*x2*x2*x2*x2*y2*x3*y3*y3*d + y1*x2*x2*x2*y2*y2*y2*y2*x3*x3*y3*d*d + y1*x2*x2*x2*y2*y2*y3*y3*y3*d + (-1*y1*x2*x2*x2*y2*y2*y3*d) + (-1*y1*x2*x2*y2*y2*y2*x3*x3*x3*d) + (-1*y1*x2*x2*y2*y2*y2*x3*d) + (-1*y1*x2*y2*y2*y2*y2*x3*x3*y3*d)) * (y1*y1 - x1*x1 - 1 - d*(x1*x1)*(y1*y1)) + (x1*x1*x1*x2*x2*y2*x3*x3*y3*d + x1*x1*x1*x2*y2*y2*x3*y3*y3*d + x1*x1*x1*x2*x3*x3*x3*y3*y3*d + x1*x1*x1*x2*x3*x3*x3 + (-1*x1*x1*x1*x2*x3*y3*y3) + x1*x1*x1*x2*x3 + x1*x1*x1*y2*x3*x3*y3*y3*y3*d + x1*x1*x1*y2*x3*x3*y3 + (-1*x1*x1*x1*y2*y3*y3*y3) + x1*x1*x1*y2*y3 + x1*x1*y1*x2*x2*y2*x3*x3*x3*y3*y3*d*d + (-1*x1*x1*y1*x2*x2*y2*x3*y3*y3*d) + (-1*x1*x1*y1*x2*y2*y2*x3*x3*y3*y3*y3*d*d) + (-1*x1*x1*y1*x2*y2*y2*x3*x3*y3*d) + x1*x1*y1*x2*x3*x3*y3*y3*y3*d + x1*x1*y1*x2*x3*x3*y3 + (-1*x1*x1*y1*x2*y3*y3*y3) + x1*x1*y1*x2*y3 + x1*x1*y1*y2*x3*x3*x3*y3*y3*d + x1*x1*y1*y2*x3*x3*x3 + (-1*x1*x1*y1*y2*x3*y3*y3) + x1*x1*y1*y2*x3 + (-1*x1*y1*y1*x2*x2*y2*x3*x3*y3*y3*y3*d*d) + (-1*x1*y1*y1*x2*x2*y2*x3*x3*y3*d) + x1*y1*y1*x2*y2*y2*x3*x3*x3*y3*y3*d*d + (-1*x1*y1*y1*x2*y2*y2*x3*y3*y3*d) + (-1*x1*y1*y1*x2*x3*x3*x3*y3*y3*d) + (-1*x1*y1*y1*x2*x3*x3*x3) + x1*y1*y1*x2*x3*y3*y3 + (-1*x1*y1*y1*x2*x3) + (-1*x1*y1*y1*y2*x3*x3*y3*y3*y3*d) + (-1*x1*y1*y1*y2*x3*x3*y3) + x1*y1*y1*y2*y3*y3*y3 + (-1*x1*y1*y1*y2*y3) + x1*x2*x2*y2*x3*x3*y3*d + x1*x2*y2*y2*x3*y3*y3*d + x1*x2*x3*x3*x3*y3*y3*d + x1*x2*x3*x3*x3 + (-1*x1*x2*x3*y3*y3) + x1*x2*x3 + x1*y2*x3*x3*y3*y3*y3*d + x1*y2*x3*x3*y3 + (-1*x1*y2*y3*y3*y3) + x1*y2*y3 + y1*y1*y1*x2*x2*y2*x3*y3*y3*d + y1*y1*y1*x2*y2*y2*x3*x3*y3*d + (-1*y1*y1*y1*x2*x3*x3*y3*y3*y3*d) + (-1*y1*y1*y1*x2*x3*x3*y3) + y1*y1*y1*x2*y3*y3*y3 + (-1*y1*y1*y1*x2*y3) + (-1*y1*y1*y1*y2*x3*x3*x3*y3*y3*d) + (-1*y1*y1*y1*y2*x3*x3*x3) + y1*y1*y1*y2*x3*y3*y3 + (-1*y1*y1*y1*y2*x3) + (-1*y1*x2*x2*y2*x3*y3*y3*d) + (-1*y1*x2*y2*y2*x3*x3*y3*d) + y1*x2*x3*x3*y3*y3*y3*d + y1*x2*x3*x3*y3 + (-1*y1*x2*y3*y3*y3) + y1*x2*y3 + y1*y2*x3*x3*x3*y3*y3*d + y1*y2*x3*x3*x3 + (-1*y1*y2*x3*y3*y3) + y1*y2*x3) * (y2*y2 - x2*x2 - 1 - d*(x2*x2)*(y2*y2)) + ((-1*x1*x1*x1*x2*x2*x2*x3) + (-1*x1*x1*x1*x2*x2*y2*y3) + x1*x1*x1*x2*y2*y2*x3 + (-1*x1*x1*x1*x2*x3) + x1*x1*x1*y2*y2*y2*y3 + (-1*x1*x1*x1*y2*y3) + (-1*x1*x1*y1*x2*x2*x2*y3) + (-1*x1*x1*y1*x2*x2*y2*x3*d) + (-1*x1*x1*y1*x2*x2*y2*x3) + x1*x1*y1*x2*y2*y2*y3*d + x1*x1*y1*x2*y2*y2*y3 + (-1*x1*x1*y1*x2*y3) + x1*x1*y1*y2*y2*y2*x3 + (-1*x1*x1*y1*y2*x3) + x1*y1*y1*x2*x2*x2*x3 + x1*y1*y1*x2*x2*y2*y3*d + x1*y1*y1*x2*x2*y2*y3 + (-1*x1*y1*y1*x2*y2*y2*x3*d) + (-1*x1*y1*y1*x2*y2*y2*x3) + x1*y1*y1*x2*x3 + (-1*x1*y1*y1*y2*y2*y2*y3) + x1*y1*y1*y2*y3 + (-1*x1*x2*x2*x2*x3) + (-1*x1*x2*x2*y2*y3) + x1*x2*y2*y2*x3 + (-1*x1*x2*x3) + x1*y2*y2*y2*y3 + (-1*x1*y2*y3) + y1*y1*y1*x2*x2*x2*y3 + y1*y1*y1*x2*x2*y2*x3 + (-1*y1*y1*y1*x2*y2*y2*y3) + y1*y1*y1*x2*y3 + (-1*y1*y1*y1*y2*y2*y2*x3) + y1*y1*y1*y2*x3 + (-1*y1*x2*x2*x2*y3) + (-1*y1*x2*x2*y2*x3) + y1*x2*y2*y2*y3 + (-1*y1*x2*y3) + y1*y2*y2*y2*x3 + (-1*y1*y2*x3)) * (y3*y3 - x3*x3 - 1 - d*(x3*x3)*(y3*y3)) := by grind
theorem assoc_y (x1 y1 x2 y2 x3 y3 d : Int) : ((y1*y2 + x1*x2)*(1 + d*x1*x2*y1*y2)*y3 + (x1*y2 + y1*x2)*(1 - d*x1*x2*y1*y2)*x3)*((1 + d*x2*x3*y2*y3)*(1 - d*x2*x3*y2*y3) - d*x1*y1*(x2*y3 + y2*x3)*(y2*y3 + x2*x3)) - (y1*(y2*y3 + x2*x3)*(1 + d*x2*x3*y2*y3) + x1*(x2*y3 + y2*x3)*(1 - d*x2*x3*y2*y3))*((1 + d*x1*x2*y1*y2)*(1 - d*x1*x2*y1*y2) - d*(x1*y2 + y1*x2)*(y1*y2 + x1*x2)*x3*y3) = (x1*x2*x2*x2*x2*y2*y2*y2*x3*y3*y3*d*d + x1*x2*x2*x2*x2*y2*x3*y3*y3*d + x1*x2*x2*x2*y2*y2*y2*y2*x3*x3*y3*d*d + x1*x2*x2*x2*y2*y2*y3*y3*y3*d + (-1*x1*x2*x2*x2*y2*y2*y3*d) + (-1*x1*x2*x2*y2*y2*y2*x3*x3*x3*d) + (-1*x1*x2*x2*y2*y2*y2*x3*d) + (-1*x1*x2*y2*y2*y2*y2*x3*x3*y3*d) + (-1*y1*x2*x2*x2*x2*y2*y2*y2*x3*x3*y3*d*d) + (-1*y1*x2*x2*x2*x2*y2*x3*x3*y3*d) + (-1*y1*x2*x2*x2*y2*y2*y2*y2*x3*y3*y3*d*d) + (-1*y1*x2*x2*x2*y2*y2*x3*x3*x3*d) + (-1*y1*x2*x2*x2*y2*y2*x3*d) + y1*x2*x2*y2*y2*y2*y3*y3*y3*d + (-1*y1*x2*x2*y2*y2*y2*y3*d) + y1*x2*y2*y2*y2*y2*x3*y3*y3*d) * (y1*y1 - x1*x1 - 1 - d*(x1*x1)*(y1*y1)) + ((-1*x1*x1*x1*x2*x2*y2*x3*y3*y3*d) + (-1*x1*x1*x1*x2*y2*y2*x3*x3*y3*d) + x1*x1*x1*x2*x3*x3*y3*y3*y3*d + x1*x1*x1*x2*x3*x3*y3 + (-1*x1*x1*x1*x2*y3*y3*y3) + x1*x1*x1*x2*y3 + x1*x1*x1*y2*x3*x3*x3*y3*y3*d + x1*x1*x1*y2*x3*x3*x3 + (-1*x1*x1*x1*y2*x3*y3*y3) + x1*x1*x1*y2*x3 + x1*x1*y1*x2*x2*y2*x3*x3*y3*y3*y3*d*d + x1*x1*y1*x2*x2*y2*x3*x3*y3*d + (-1*x1*x1*y1*x2*y2*y2*x3*x3*x3*y3*y3*d*d) + x1*x1*y1*x2*y2*y2*x3*y3*y3*d + x1*x1*y1*x2*x3*x3*x3*y3*y3*d + x1*x1*y1*x2*x3*x3*x3 + (-1*x1*x1*y1*x2*x3*y3*y3) + x1*x1*y1*x2*x3 + x1*x1*y1*y2*x3*x3*y3*y3*y3*d + x1*x1*y1*y2*x3*x3*y3 + (-1*x1*x1*y1*y2*y3*y3*y3) + x1*x1*y1*y2*y3 + (-1*x1*y1*y1*x2*x2*y2*x3*x3*x3*y3*y3*d*d) + x1*y1*y1*x2*x2*y2*x3*y3*y3*d + x1*y1*y1*x2*y2*y2*x3*x3*y3*y3*y3*d*d + x1*y1*y1*x2*y2*y2*x3*x3*y3*d + (-1*x1*y1*y1*x2*x3*x3*y3*y3*y3*d) + (-1*x1*y1*y1*x2*x3*x3*y3) + x1*y1*y1*x2*y3*y3*y3 + (-1*x1*y1*y1*x2*y3) + (-1*x1*y1*y1*y2*x3*x3*x3*y3*y3*d) + (-1*x1*y1*y1*y2*x3*x3*x3) + x1*y1*y1*y2*x3*y3*y3 + (-1*x1*y1*y1*y2*x3) + (-1*x1*x2*x2*y2*x3*y3*y3*d) + (-1*x1*x2*y2*y2*x3*x3*y3*d) + x1*x2*x3*x3*y3*y3*y3*d + x1*x2*x3*x3*y3 + (-1*x1*x2*y3*y3*y3) + x1*x2*y3 + x1*y2*x3*x3*x3*y3*y3*d + x1*y2*x3*x3*x3 + (-1*x1*y2*x3*y3*y3) + x1*y2*x3 + (-1*y1*y1*y1*x2*x2*y2*x3*x3*y3*d) + (-1*y1*y1*y1*x2*y2*y2*x3*y3*y3*d) + (-1*y1*y1*y1*x2*x3*x3*x3*y3*y3*d) + (-1*y1*y1*y1*x2*x3*x3*x3) + y1*y1*y1*x2*x3*y3*y3 + (-1*y1*y1*y1*x2*x3) + (-1*y1*y1*y1*y2*x3*x3*y3*y3*y3*d) + (-1*y1*y1*y1*y2*x3*x3*y3) + y1*y1*y1*y2*y3*y3*y3 + (-1*y1*y1*y1*y2*y3) + y1*x2*x2*y2*x3*x3*y3*d + y1*x2*y2*y2*x3*y3*y3*d + y1*x2*x3*x3*x3*y3*y3*d + y1*x2*x3*x3*x3 + (-1*y1*x2*x3*y3*y3) + y1*x2*x3 + y1*y2*x3*x3*y3*y3*y3*d + y1*y2*x3*x3*y3 + (-1*y1*y2*y3*y3*y3) + y1*y2*y3) * (y2*y2 - x2*x2 - 1 - d*(x2*x2)*(y2*y2)) + ((-1*x1*x1*x1*x2*x2*x2*y3) + (-1*x1*x1*x1*x2*x2*y2*x3) + x1*x1*x1*x2*y2*y2*y3 + (-1*x1*x1*x1*x2*y3) + x1*x1*x1*y2*y2*y2*x3 + (-1*x1*x1*x1*y2*x3) + (-1*x1*x1*y1*x2*x2*x2*x3) + (-1*x1*x1*y1*x2*x2*y2*y3*d) + (-1*x1*x1*y1*x2*x2*y2*y3) + x1*x1*y1*x2*y2*y2*x3*d + x1*x1*y1*x2*y2*y2*x3 + (-1*x1*x1*y1*x2*x3) + x1*x1*y1*y2*y2*y2*y3 + (-1*x1*x1*y1*y2*y3) + x1*y1*y1*x2*x2*x2*y3 + x1*y1*y1*x2*x2*y2*x3*d + x1*y1*y1*x2*x2*y2*x3 + (-1*x1*y1*y1*x2*y2*y2*y3*d) + (-1*x1*y1*y1*x2*y2*y2*y3) + x1*y1*y1*x2*y3 + (-1*x1*y1*y1*y2*y2*y2*x3) + x1*y1*y1*y2*x3 + (-1*x1*x2*x2*x2*y3) + (-1*x1*x2*x2*y2*x3) + x1*x2*y2*y2*y3 + (-1*x1*x2*y3) + x1*y2*y2*y2*x3 + (-1*x1*y2*x3) + y1*y1*y1*x2*x2*x2*x3 + y1*y1*y1*x2*x2*y2*y3 + (-1*y1*y1*y1*x2*y2*y2*x3) + y1*y1*y1*x2*x3 + (-1*y1*y1*y1*y2*y2*y2*y3) + y1*y1*y1*y2*y3 + (-1*y1*x2*x2*x2*x3) + (-1*y1*x2*x2*y2*y3) + y1*x2*y2*y2*x3 + (-1*y1*x2*x3) + y1*y2*y2*y2*y3 + (-1*y1*y2*y3)) * (y3*y3 - x3*x3 - 1 - d*(x3*x3)*(y3*y3)) := by grind
theorem closed_id (x1 y1 x2 y2 d : Int) : ((y1*y2 + x1*x2)*(1 + d*x1*x2*y1*y2))*((y1*y2 + x1*x2)*(1 + d*x1*x2*y1*y2)) - ((x1*y2 + y1*x2)*(1 - d*x1*x2*y1*y2))*((x1*y2 + y1*x2)*(1 - d*x1*x2*y1*y2)) - ((1 + d*x1*x2*y1*y2)*(1 - d*x1*x2*y1*y2))*((1 + d*x1*x2*y1*y2)*(1 - d*x1*x2*y1*y2)) - d*((x1*y2 + y1*x2)*(y1*y2 + x1*x2))*((x1*y2 + y1*x2)*(y1*y2 + x1*x2)) = (x1*x1*y1*y1*x2*x2*x2*x2*y2*y2*y2*y2*d*d*d + (-1*x1*x1*x2*x2*x2*x2*y2*y2*y2*y2*d*d) + (-1*x1*x1*x2*x2*x2*x2*y2*y2*d) + x1*x1*x2*x2*y2*y2*y2*y2*d + y1*y1*x2*x2*x2*x2*y2*y2*y2*y2*d*d + y1*y1*x2*x2*x2*x2*y2*y2*d + (-1*y1*y1*x2*x2*y2*y2*y2*y2*d) + (-1*x2*x2*x2*x2*y2*y2*y2*y2*d*d) + (-2*x2*x2*x2*x2*y2*y2*y2*y2*d) + (-2*x2*x2*x2*x2*y2*y2) + x2*x2*x2*x2 + 2*x2*x2*y2*y2*y2*y2 + (-2*x2*x2*y2*y2*d) + (-4*x2*x2*y2*y2) + y2*y2*y2*y2) * (y1*y1 - x1*x1 - 1 - d*(x1*x1)*(y1*y1)) + (x1*x1*x1*x1*x2*x2*y2*y2*d + 2*x1*x1*x2*x2*y2*y2*d + 2*x1*x1*x2*x2*y2*y2 + (-1*x1*x1*x2*x2) + x1*x1*y2*y2 + y1*y1*y1*y1*x2*x2*y2*y2*d + (-2*y1*y1*x2*x2*y2*y2*d) + (-2*y1*y1*x2*x2*y2*y2) + y1*y1*x2*x2 + (-1*y1*y1*y2*y2) + x2*x2*y2*y2*d + 2*x2*x2*y2*y2 + (-1*x2*x2) + y2*y2 + 1) * (y2*y2 - x2*x2 - 1 - d*(x2*x2)*(y2*y2)) := by grind

/-- A number that p divides. -/
def Z (x : Int) : Prop := PP ∣ x
/-- The curve's number, and the curve. -/
def DD : Int := 37095705934669439343138083508754565189542113879843219016388785533085940283555
def onC (q : Int × Int) : Prop := Z (q.2*q.2 - q.1*q.1 - 1 - DD*(q.1*q.1)*(q.2*q.2))
def cn (q : Int × Int) : Prop := (0 ≤ q.1 ∧ q.1 < PP) ∧ (0 ≤ q.2 ∧ q.2 < PP)
theorem Z.iff {a b : Int} : Z (a - b) ↔ a % PP = b % PP := dvd_iff
theorem Z.of1 {g a h : Int} (e : g = a * h) (z : Z h) : Z g := by rw [e]; exact Int.dvd_mul_of_dvd_right z
theorem Z.add {a b : Int} (z1 : Z a) (z2 : Z b) : Z (a + b) := Int.dvd_add z1 z2
theorem Z.of2 {g a h b k : Int} (e : g = a * h + b * k) (z1 : Z h) (z2 : Z k) : Z g := by rw [e]; exact Z.add (Z.of1 rfl z1) (Z.of1 rfl z2)
theorem Z.of3 {g a h b k c l : Int} (e : g = a * h + b * k + c * l) (z1 : Z h) (z2 : Z k) (z3 : Z l) : Z g := by rw [e]; exact Z.add (Z.add (Z.of1 rfl z1) (Z.of1 rfl z2)) (Z.of1 rfl z3)
theorem Z.of4 {g a h b k c l m n : Int} (e : g = a * h + b * k + c * l + m * n) (z1 : Z h) (z2 : Z k) (z3 : Z l) (z4 : Z n) : Z g := by rw [e]; exact Z.add (Z.add (Z.add (Z.of1 rfl z1) (Z.of1 rfl z2)) (Z.of1 rfl z3)) (Z.of1 rfl z4)
theorem Z.mul {a b : Int} (h : Z (a * b)) : Z a ∨ Z b := eucI PP_nat p25519 h
theorem Z.sq {a : Int} (h : Z (a * a)) : Z a := by rcases Z.mul h with h | h <;> exact h
theorem Z.can {a b : Int} (ha : 0 ≤ a ∧ a < PP) (hb : 0 ≤ b ∧ b < PP) (h : Z (a - b)) : a = b := by
  have := Z.iff.1 h
  rwa [Int.emod_eq_of_lt ha.1 ha.2, Int.emod_eq_of_lt hb.1 hb.2] at this
theorem Z.mod (a : Int) : Z (a % PP - a) := Z.iff.2 (Int.emod_emod _ _)
theorem not_one : ¬ Z 1 := by unfold Z; decide
theorem not_two : ¬ Z 2 := by unfold Z; decide
/-- The inverse. -/
def iv (a : Int) : Int := powZ (a % PP) (PP - 2) 256 % PP
theorem iv_ok {a : Int} (h : ¬ Z a) : Z (a * iv a - 1) := by
  obtain ⟨e, h1, h2, -⟩ := invZ
  have h3 := h2 (a % PP) (rmod a).1 (by rw [Int.emod_emod]; exact fun h0 => h (Int.dvd_of_emod_eq_zero h0))
  refine Z.iff.2 ?_
  rw [iv, h1, mulP', ← mulP, h3]; decide
/-- d is no square. -/
theorem dd_pow {e : Nat} (he : e < 2 ^ 256) (h : pm PP.toNat 256 DD.toNat e % PP.toNat + 1 = PP.toNat) : DD ^ e % PP = PP - 1 := by
  have hd : DD = ((DD.toNat : Nat) : Int) := by decide
  rw [pm_ok PP.toNat 256 DD.toNat e he] at h
  have h5 : DD ^ e % PP = ((DD.toNat ^ e % PP.toNat : Nat) : Int) := by rw [hd]; exact int_pow_mod (by decide) _ _
  rw [h5]
  have : PP = (PP.toNat : Int) := by decide
  omega
theorem dd_half : ∃ e : Nat, 2 * e + 1 = 57896044618658097711785492504343953926634992332820282019728792003956564819949 ∧ DD ^ e % PP = PP - 1 := by
  obtain ⟨e, he⟩ : ∃ e : Nat, e = 28948022309329048855892746252171976963317496166410141009864396001978282409974 := ⟨_, rfl⟩
  exact ⟨e, by omega, dd_pow (by rw [he]; decide +kernel) (by rw [he]; decide +kernel)⟩
theorem pow_congP {a b : Int} (h : a % PP = b % PP) (n : Nat) : a ^ n % PP = b ^ n % PP := by
  rw [← pow_modP a, h, pow_modP]
theorem nonsq {w v : Int} (h : Z (DD * (w * w) - v * v)) : Z w := by
  obtain ⟨e, he, hd⟩ := dd_half
  refine Classical.byContradiction fun hw => ?_
  -- canonical w, v
  have key : ∀ x : Int, ¬ Z x → (x * x) ^ e % PP = 1 := by
    intro x hx
    have hx' : (x % PP) % PP ≠ 0 := by rw [Int.emod_emod]; exact fun h0 => hx (Int.dvd_of_emod_eq_zero h0)
    obtain ⟨n, hn⟩ := Int.eq_ofNat_of_zero_le (rmod x).1
    have hnd : ¬ 57896044618658097711785492504343953926634992332820282019728792003956564819949 ∣ n := not_dvdI PP_nat (by rw [← hn]; exact hx')
    have f := p25519.fermat1 hnd
    have e2 : (57896044618658097711785492504343953926634992332820282019728792003956564819949 : Nat) - 1 = 2 * e := by omega
    rw [e2] at f
    rw [← sqI, ← Int.pow_mul, ← pow_modP x, hn, int_pow_mod PP_nat, f]; rfl
  have h1 : DD ^ e % PP = (v * v) ^ e % PP := by
    have a1 : (DD * (w * w)) ^ e % PP = (v * v) ^ e % PP := pow_congP (Z.iff.1 h) e
    rw [Int.mul_pow, ← mulP', key w hw] at a1
    rw [← a1, Int.mul_one]
  by_cases hv : Z v
  · have : (v * v) ^ e % PP = 0 := by
      have h0 : (v * v) % PP = 0 % PP := by
        have : v % PP = 0 % PP := by have := Z.iff.1 (show Z (v - 0) by rwa [Int.sub_zero]); exact this
        rw [mul_congP this this]; rfl
      rw [pow_congP h0 e, Int.zero_pow (by omega)]; rfl
    rw [hd, this] at h1
    exact absurd h1 (by decide)
  · rw [hd, key v hv] at h1
    exact absurd h1 (by decide)
/-- No denominator is nothing. -/
theorem complete {x1 y1 x2 y2 : Int} (h1 : onC (x1, y1)) (h2 : onC (x2, y2)) (hs : Z ((1 + DD*x1*x2*y1*y2) * (1 - DD*x1*x2*y1*y2))) : False := by
  obtain ⟨i, hi⟩ : ∃ i : Int, Z (i * i + 1) := ⟨moZ, by
    have := mo_sq
    have h : Z (moZ * moZ - (PP - 1)) := Z.iff.2 (by rw [this]; decide)
    have e : moZ * moZ + 1 = (moZ * moZ - (PP - 1)) + 1 * PP := by grind
    rw [e]; exact Z.add h (Z.of1 rfl (Int.dvd_refl _))⟩
  obtain ⟨s, es⟩ : ∃ s, s = DD*x1*x2*y1*y2 := ⟨_, rfl⟩
  rw [← es] at hs
  have n0 : ¬ Z s := fun hz => not_one (Z.of2 (a := 1) (b := s) (by grind) hs hz)
  -- d (x1 y1 (i x2 + y2))^2 = (i x1 + s y1)^2
  have w1 : Z (x1*y1*(i*x2 + y2)) := nonsq (v := i*x1 + s*y1) (Z.of4 (a := -1) (b := DD*x1*x1*y1*y1) (c := DD*x1*x1*y1*y1*x2*x2 - x1*x1) (m := -(1 - y1*y1)) (by rw [es]; clear es; grind) h1 h2 hi hs)
  have w2 : Z (x1*y1*(i*x2 - y2)) := nonsq (v := i*x1 - s*y1) (Z.of4 (a := -1) (b := DD*x1*x1*y1*y1) (c := DD*x1*x1*y1*y1*x2*x2 - x1*x1) (m := -(1 - y1*y1)) (by rw [es]; clear es; grind) h1 h2 hi hs)
  have w3 : Z (2 * s) := Z.of2 (a := DD*x2) (b := -(DD*x2)) (by rw [es]; clear es; grind) w1 w2
  rcases Z.mul w3 with h | h
  · exact not_two h
  · exact n0 h
theorem dens {p q : Int × Int} (h1 : onC p) (h2 : onC q) : ¬ Z (1 + DD*p.1*q.1*p.2*q.2) ∧ ¬ Z (1 - DD*p.1*q.1*p.2*q.2) :=
  ⟨fun h => complete h1 h2 (Z.of1 (a := 1 - DD*p.1*q.1*p.2*q.2) (Int.mul_comm _ _) h), fun h => complete h1 h2 (Z.of1 rfl h)⟩
/-- Points added. -/
def pa (p q : Int × Int) : Int × Int :=
  ((p.1*q.2 + p.2*q.1) * iv (1 + DD*p.1*q.1*p.2*q.2) % PP, (p.2*q.2 + p.1*q.1) * iv (1 - DD*p.1*q.1*p.2*q.2) % PP)
theorem pa_cn (p q : Int × Int) : cn (pa p q) := ⟨rmod _, rmod _⟩
theorem frac {n c : Int} (h : ¬ Z c) : Z (n * iv c % PP * c - n) := by
  have h1 := Z.mod (n * iv c)
  have h2 := iv_ok h
  exact Z.of2 (a := c) (b := n) (by grind) h1 h2
theorem pa_spec {p q : Int × Int} (h1 : onC p) (h2 : onC q) :
    Z ((pa p q).1 * (1 + DD*p.1*q.1*p.2*q.2) - (p.1*q.2 + p.2*q.1)) ∧ Z ((pa p q).2 * (1 - DD*p.1*q.1*p.2*q.2) - (p.2*q.2 + p.1*q.1)) :=
  ⟨frac (dens h1 h2).1, frac (dens h1 h2).2⟩
theorem nz_mul {a b : Int} (ha : ¬ Z a) (hb : ¬ Z b) : ¬ Z (a * b) := fun h => (Z.mul h).elim ha hb
theorem cancel {a b : Int} (ha : ¬ Z a) (h : Z (a * b)) : Z b := (Z.mul h).elim (fun h => absurd h ha) id
theorem pa_on {p q : Int × Int} (h1 : onC p) (h2 : onC q) : onC (pa p q) := by
  obtain ⟨x1, y1⟩ := p
  obtain ⟨x2, y2⟩ := q
  obtain ⟨s1, s2⟩ := pa_spec h1 h2
  obtain ⟨n1, n2⟩ := dens h1 h2
  generalize pa (x1, y1) (x2, y2) = r at s1 s2 ⊢
  obtain ⟨x3, y3⟩ := r
  unfold onC at h1 h2 ⊢
  simp only at h1 h2 s1 s2 n1 n2 ⊢
  have ci := closed_id x1 y1 x2 y2 DD
  refine cancel (nz_mul (nz_mul n1 n1) (nz_mul n2 n2)) ?_
  generalize hD : DD = d at *
  have z0 : Z (((y1*y2 + x1*x2)*(1 + d*x1*x2*y1*y2))*((y1*y2 + x1*x2)*(1 + d*x1*x2*y1*y2)) - ((x1*y2 + y1*x2)*(1 - d*x1*x2*y1*y2))*((x1*y2 + y1*x2)*(1 - d*x1*x2*y1*y2)) - ((1 + d*x1*x2*y1*y2)*(1 - d*x1*x2*y1*y2))*((1 + d*x1*x2*y1*y2)*(1 - d*x1*x2*y1*y2)) - d*((x1*y2 + y1*x2)*(y1*y2 + x1*x2))*((x1*y2 + y1*x2)*(y1*y2 + x1*x2))) := Z.of2 ci h1 h2
  generalize (1 + d*x1*x2*y1*y2) = A at *
  generalize (1 - d*x1*x2*y1*y2) = B at *
  generalize (x1*y2 + y1*x2) = X at *
  generalize (y1*y2 + x1*x2) = Y at *
  exact Z.of3 (a := 1) (b := (-(x3*A + X)*B*B - d*y3*B*y3*B*(x3*A + X))) (c := ((y3*B + Y)*A*A - d*X*X*(y3*B + Y))) (by clear ci; grind) z0 s1 s2
theorem ratio {N1 D1 N2 D2 u v : Int} (h1 : Z (u * D1 - N1)) (h2 : Z (v * D2 - N2)) (n1 : ¬ Z D1) (n2 : ¬ Z D2) (h : Z (N1 * D2 - N2 * D1)) : Z (u - v) :=
  cancel (nz_mul n1 n2) (Z.of3 (a := D2) (b := -D1) (c := 1) (by grind) h1 h2 h)
theorem pa_comm (p q : Int × Int) : pa p q = pa q p := by
  unfold pa
  rw [show q.1*p.2 + q.2*p.1 = p.1*q.2 + p.2*q.1 by grind, show q.2*p.2 + q.1*p.1 = p.2*q.2 + p.1*q.1 by grind, show DD*q.1*p.1*q.2*p.2 = DD*p.1*q.1*p.2*q.2 by grind]
theorem cn_ext {p q : Int × Int} (hp : cn p) (hq : cn q) (h1 : Z (p.1 - q.1)) (h2 : Z (p.2 - q.2)) : p = q := Prod.ext (Z.can hp.1 hq.1 h1) (Z.can hp.2 hq.2 h2)
/-- The left way: what the sum's numbers are, times the denominators. -/
theorem left_x {x3 y3 a b A B X Y u d : Int} (e1 : Z (a * A - X)) (e2 : Z (b * B - Y)) (e3 : Z (u * (1 + d*a*x3*b*y3) - (a*y3 + b*x3))) :
    Z (u * (A * B + d*X*Y*x3*y3) - (X*B*y3 + Y*A*x3)) :=
  Z.of3 (a := A*B) (b := (B*y3 - u*d*Y*x3*y3)) (c := (A*x3 - u*d*a*A*x3*y3)) (by grind) e3 e1 e2
theorem left_y {x3 y3 a b A B X Y u d : Int} (e1 : Z (a * A - X)) (e2 : Z (b * B - Y)) (e3 : Z (u * (1 - d*a*x3*b*y3) - (b*y3 + a*x3))) :
    Z (u * (A * B - d*X*Y*x3*y3) - (Y*A*y3 + X*B*x3)) :=
  Z.of3 (a := A*B) (b := (B*x3 + u*d*Y*x3*y3)) (c := (A*y3 + u*d*a*A*x3*y3)) (by grind) e3 e1 e2
theorem left_n {x3 y3 a b A B X Y d : Int} (e1 : Z (a * A - X)) (e2 : Z (b * B - Y)) (n1 : ¬ Z A) (n2 : ¬ Z B) (n3 : ¬ Z (1 + d*a*x3*b*y3)) : ¬ Z (A * B + d*X*Y*x3*y3) := fun h =>
  nz_mul (nz_mul n1 n2) n3 (Z.of3 (a := 1) (b := d*Y*x3*y3) (c := d*a*A*x3*y3) (by grind) h e1 e2)
theorem pa_assoc {p q r : Int × Int} (h1 : onC p) (h2 : onC q) (h3 : onC r) : pa (pa p q) r = pa p (pa q r) := by
  have c1 := pa_cn (pa p q) r
  have c2 := pa_cn p (pa q r)
  have hpq := pa_on h1 h2
  have hqr := pa_on h2 h3
  obtain ⟨e1, e2⟩ := pa_spec h1 h2
  obtain ⟨e3, e4⟩ := pa_spec hpq h3
  obtain ⟨e5, e6⟩ := pa_spec h2 h3
  obtain ⟨e7, e8⟩ := pa_spec h1 hqr
  obtain ⟨n1, n2⟩ := dens h1 h2
  obtain ⟨n3, n4⟩ := dens hpq h3
  obtain ⟨n5, n6⟩ := dens h2 h3
  obtain ⟨n7, n8⟩ := dens h1 hqr
  generalize pa (pa p q) r = u at *
  generalize pa p (pa q r) = v at *
  generalize pa p q = a at *
  generalize pa q r = b at *
  obtain ⟨x1, y1⟩ := p
  obtain ⟨x2, y2⟩ := q
  obtain ⟨x3, y3⟩ := r
  obtain ⟨ax, ay⟩ := a
  obtain ⟨bx, b_y⟩ := b
  have ix := assoc_x x1 y1 x2 y2 x3 y3 DD
  have iy := assoc_y x1 y1 x2 y2 x3 y3 DD
  unfold onC at h1 h2 h3
  simp only at *
  refine cn_ext c1 c2 ?_ ?_
  · have r1 := left_x (d := DD) e1 e2 e3
    have r2 := left_x (d := DD) (x3 := x1) (y3 := y1) (u := v.1) e5 e6 (by rw [show v.1 * (1 + DD*bx*x1*b_y*y1) - (bx*y1 + b_y*x1) = v.1 * (1 + DD*x1*bx*y1*b_y) - (x1*b_y + y1*bx) by grind]; exact e7)
    have m1 := left_n e1 e2 n1 n2 n3
    have m2 := left_n (x3 := x1) (y3 := y1) e5 e6 n5 n6 (by rw [show DD*bx*x1*b_y*y1 = DD*x1*bx*y1*b_y by grind]; exact n7)
    refine ratio r1 r2 m1 m2 ?_
    refine Z.of1 (a := 1) (h := _) ?_ (Z.of3 ix h1 h2 h3)
    clear ix iy r1 r2 m1 m2 e1 e2 e3 e4 e5 e6 e7 e8
    grind
  · have r1 := left_y (d := DD) e1 e2 e4
    have r2 := left_y (d := DD) (x3 := x1) (y3 := y1) (u := v.2) e5 e6 (by rw [show v.2 * (1 - DD*bx*x1*b_y*y1) - (b_y*y1 + bx*x1) = v.2 * (1 - DD*x1*bx*y1*b_y) - (y1*b_y + x1*bx) by grind]; exact e8)
    have m1 : ¬ Z ((1 + DD*x1*x2*y1*y2) * (1 - DD*x1*x2*y1*y2) - DD*(x1*y2 + y1*x2)*(y1*y2 + x1*x2)*x3*y3) := fun h => nz_mul (nz_mul n1 n2) n4 (Z.of3 (a := 1) (b := -(DD*(y1*y2 + x1*x2)*x3*y3)) (c := -(DD*ax*(1 + DD*x1*x2*y1*y2)*x3*y3)) (by grind) h e1 e2)
    have m2 : ¬ Z ((1 + DD*x2*x3*y2*y3) * (1 - DD*x2*x3*y2*y3) - DD*(x2*y3 + y2*x3)*(y2*y3 + x2*x3)*x1*y1) := fun h => nz_mul (nz_mul n5 n6) n8 (Z.of3 (a := 1) (b := -(DD*(y2*y3 + x2*x3)*x1*y1)) (c := -(DD*bx*(1 + DD*x2*x3*y2*y3)*x1*y1)) (by grind) h e5 e6)
    refine ratio r1 r2 m1 m2 ?_
    refine Z.of1 (a := 1) (h := _) ?_ (Z.of3 iy h1 h2 h3)
    clear ix iy r1 r2 m1 m2 e1 e2 e3 e4 e5 e6 e7 e8
    grind
/-- (0, 1). -/
def pz : Int × Int := (0, 1)
theorem pz_on : onC pz := by unfold onC pz Z; decide
theorem pz_cn : cn pz := by unfold cn pz; decide
theorem pa_zero {p : Int × Int} (h : onC p) (hc : cn p) : pa pz p = p := by
  obtain ⟨e1, e2⟩ := pa_spec pz_on h
  have c := pa_cn pz p
  generalize pa pz p = r at *
  simp only [pz] at e1 e2
  exact cn_ext c hc (by rw [show r.1 - p.1 = r.1 * (1 + DD*0*p.1*1*p.2) - (0*p.2 + 1*p.1) by grind]; exact e1) (by rw [show r.2 - p.2 = r.2 * (1 - DD*0*p.1*1*p.2) - (1*p.2 + 0*p.1) by grind]; exact e2)
def pneg (p : Int × Int) : Int × Int := ((0 - p.1) % PP, p.2)
theorem pneg_on {p : Int × Int} (h : onC p) : onC (pneg p) := by
  unfold onC pneg at *
  have h1 := Z.mod (0 - p.1)
  simp only at *
  generalize (0 - p.1) % PP = x at *
  exact Z.of2 (a := 1) (b := (p.1 - x) * (1 + DD*p.2*p.2)) (by grind) h h1
theorem pneg_cn {p : Int × Int} (h : cn p) : cn (pneg p) := ⟨rmod _, h.2⟩
theorem pa_neg {p : Int × Int} (h : onC p) : pa p (pneg p) = pz := by
  obtain ⟨e1, e2⟩ := pa_spec h (pneg_on h)
  obtain ⟨n1, n2⟩ := dens h (pneg_on h)
  have c := pa_cn p (pneg p)
  have h1 := Z.mod (0 - p.1)
  generalize pa p (pneg p) = r at *
  unfold onC at h
  simp only [pneg] at *
  generalize (0 - p.1) % PP = x at *
  refine cn_ext c pz_cn (cancel n1 ?_) (cancel n2 ?_)
  · simp only [pz]
    exact Z.of2 (a := 1) (b := p.2) (by grind) e1 h1
  · simp only [pz]
    exact Z.of3 (a := 1) (b := (p.1 + DD*p.1*p.2*p.2)) (c := 1) (by grind) e2 h1 h
theorem fc_aux {α : Type} (n : Nat) (f : Nat → α) : (Nat.rec (f 0) (fun k _ => f (k + 1)) n : α) = f n := by cases n <;> rfl
/-- So many times. -/
def nm (p : Int × Int) : Nat → Int × Int
  | 0 => pz
  | n + 1 => pa (nm p n) p
theorem nm_on {p : Int × Int} (h : onC p) : ∀ n, onC (nm p n)
  | 0 => pz_on
  | n + 1 => pa_on (nm_on h n) h
theorem nm_cn {p : Int × Int} : ∀ n, cn (nm p n)
  | 0 => pz_cn
  | _ + 1 => pa_cn _ _
theorem nm_add {p : Int × Int} (h : onC p) (m : Nat) : ∀ n, nm p (m + n) = pa (nm p m) (nm p n)
  | 0 => by rw [Nat.add_zero, pa_comm]; exact (pa_zero (nm_on h m) (nm_cn m)).symm
  | n + 1 => by
    show pa (nm p (m + n)) p = pa (nm p m) (pa (nm p n) p)
    rw [nm_add h m n, pa_assoc (nm_on h m) (nm_on h n) h]
theorem nm_one {p : Int × Int} (h : onC p) (hc : cn p) : nm p 1 = p := pa_zero h hc
theorem nm_mul {p : Int × Int} (h : onC p) (n : Nat) : ∀ m, nm (nm p n) m = nm p (n * m)
  | 0 => rfl
  | m + 1 => by
    show pa (nm (nm p n) m) (nm p n) = _
    rw [nm_mul h n m, ← nm_add h]; rfl
theorem nm_mod {p : Int × Int} (h : onC p) {l : Nat} (hl : nm p l = pz) (n : Nat) : nm p n = nm p (n % l) := by
  have e : n = l * (n / l) + n % l := (Nat.div_add_mod n l).symm
  have z : ∀ k, nm pz k = pz := fun k => by
    induction k with
    | zero => rfl
    | succ k ih => show pa (nm pz k) pz = pz; rw [ih]; exact pa_zero pz_on pz_cn
  conv => lhs; rw [e]
  rw [nm_add h, ← nm_mul h, hl, z, pa_zero (nm_on h _) (nm_cn _)]
/-- Four numbers: x and y, both times z, and x y times z. -/
structure Q4 where
  x : Int
  y : Int
  z : Int
  t : Int
def Q4.bd (q : Q4) : Prop := (0 ≤ q.x ∧ q.x < WW) ∧ (0 ≤ q.y ∧ q.y < WW) ∧ (0 ≤ q.z ∧ q.z < WW) ∧ (0 ≤ q.t ∧ q.t < WW)
structure Rep (q : Q4) (p : Int × Int) : Prop where
  z : ¬ Z q.z
  x : q.x % PP = (p.1 * q.z) % PP
  y : q.y % PP = (p.2 * q.z) % PP
  t : q.t % PP = (p.1 * p.2 * q.z) % PP
  on : onC p
  cn : cn p
def eQ (p q : Q4) : Int := minZ (timesZ (plusZ p.y p.x) (plusZ q.y q.x)) (timesZ (minZ p.y p.x) (minZ q.y q.x))
def hQ (p q : Q4) : Int := plusZ (timesZ (plusZ p.y p.x) (plusZ q.y q.x)) (timesZ (minZ p.y p.x) (minZ q.y q.x))
def cQ (p q : Q4) : Int := plusZ (timesZ (timesZ p.t q.t) DD) (timesZ (timesZ p.t q.t) DD)
def zQ (p q : Q4) : Int := plusZ (timesZ p.z q.z) (timesZ p.z q.z)
def fQ (p q : Q4) : Int := minZ (zQ p q) (cQ p q)
def gQ (p q : Q4) : Int := plusZ (zQ p q) (cQ p q)
def plusQ (p q : Q4) : Q4 := ⟨timesZ (eQ p q) (fQ p q), timesZ (gQ p q) (hQ p q), timesZ (fQ p q) (gQ p q), timesZ (eQ p q) (hQ p q)⟩
theorem add_congP {a a' b b' : Int} (h : a % PP = a' % PP) (k : b % PP = b' % PP) : (a + b) % PP = (a' + b') % PP := by rw [Int.add_emod, h, k, ← Int.add_emod]
theorem sub_congP {a a' b b' : Int} (h : a % PP = a' % PP) (k : b % PP = b' % PP) : (a - b) % PP = (a' - b') % PP := by rw [Int.sub_emod, h, k, ← Int.sub_emod]
theorem pl {a a' b b' : Int} (h : a % PP = a' % PP) (k : b % PP = b' % PP) : plusZ a b % PP = (a' + b') % PP := (plusZ_mod a b).trans (add_congP h k)
theorem mi {a a' b b' : Int} (h : a % PP = a' % PP) (k : b % PP = b' % PP) : minZ a b % PP = (a' - b') % PP := (minZ_mod a b).trans (sub_congP h k)
theorem ti {a a' b b' : Int} (h : a % PP = a' % PP) (k : b % PP = b' % PP) : timesZ a b % PP = (a' * b') % PP := (timesZ_mod a b).trans (mul_congP h k)
theorem Rep.plus {P Q : Q4} {p q : Int × Int} (hp : Rep P p) (hq : Rep Q q) : Rep (plusQ P Q) (pa p q) := by
  obtain ⟨z1, x1, y1, t1, o1, c1⟩ := hp
  obtain ⟨z2, x2, y2, t2, o2, c2⟩ := hq
  obtain ⟨s1, s2⟩ := pa_spec o1 o2
  obtain ⟨n1, n2⟩ := dens o1 o2
  have o3 := pa_on o1 o2
  have c3 := pa_cn p q
  generalize pa p q = r at *
  obtain ⟨W, hW⟩ : ∃ W, W = P.z * Q.z := ⟨_, rfl⟩
  have nW : ¬ Z W := by rw [hW]; exact nz_mul z1 z2
  have e_z : zQ P Q % PP = (2 * W) % PP := by
    refine (pl (ti rfl rfl) (ti rfl rfl)).trans (congrArg (· % PP) ?_)
    rw [hW]; grind
  have e_c : cQ P Q % PP = (2 * W * (DD*p.1*q.1*p.2*q.2)) % PP := by
    refine (pl (ti (ti t1 t2) rfl) (ti (ti t1 t2) rfl)).trans (congrArg (· % PP) ?_)
    rw [hW]; grind
  have e_a : timesZ (minZ P.y P.x) (minZ Q.y Q.x) % PP = (W * ((p.2 - p.1) * (q.2 - q.1))) % PP := by
    refine (ti (mi y1 x1) (mi y2 x2)).trans (congrArg (· % PP) ?_)
    rw [hW]; grind
  have e_b : timesZ (plusZ P.y P.x) (plusZ Q.y Q.x) % PP = (W * ((p.2 + p.1) * (q.2 + q.1))) % PP := by
    refine (ti (pl y1 x1) (pl y2 x2)).trans (congrArg (· % PP) ?_)
    rw [hW]; grind
  have e_e : eQ P Q % PP = (2 * W * (p.1*q.2 + p.2*q.1)) % PP := by
    refine (mi e_b e_a).trans (congrArg (· % PP) ?_)
    grind
  have e_h : hQ P Q % PP = (2 * W * (p.2*q.2 + p.1*q.1)) % PP := by
    refine (pl e_b e_a).trans (congrArg (· % PP) ?_)
    grind
  have e_f : fQ P Q % PP = (2 * W * (1 - DD*p.1*q.1*p.2*q.2)) % PP := by
    refine (mi e_z e_c).trans (congrArg (· % PP) ?_)
    grind
  have e_g : gQ P Q % PP = (2 * W * (1 + DD*p.1*q.1*p.2*q.2)) % PP := by
    refine (pl e_z e_c).trans (congrArg (· % PP) ?_)
    grind
  have rx := ti e_e e_f
  have ry := ti e_g e_h
  have rz := ti e_f e_g
  have rt := ti e_e e_h
  generalize DD*p.1*q.1*p.2*q.2 = s at *
  refine ⟨?_, ?_, ?_, ?_, o3, c3⟩
  · intro h
    have h' : Z (timesZ (fQ P Q) (gQ P Q) - 2 * W * (1 - s) * (2 * W * (1 + s))) := Z.iff.2 rz
    have h : Z (timesZ (fQ P Q) (gQ P Q)) := h
    generalize timesZ (fQ P Q) (gQ P Q) = zz at h h'
    have h2 : Z (2 * W * (1 - s) * (2 * W * (1 + s))) := Z.of2 (a := 1) (b := -1) (by clear rx ry rz rt e_e e_h e_f e_g e_c e_z e_a e_b; grind) h h'
    exact nz_mul (nz_mul (nz_mul not_two nW) n2) (nz_mul (nz_mul not_two nW) n1) h2
  · refine rx.trans (Eq.trans ?_ (mul_congP (rfl : r.1 % PP = _) rz).symm)
    exact Z.iff.1 (Z.of1 (a := -(2 * W * (2 * W) * (1 - s))) (by grind) s1)
  · refine ry.trans (Eq.trans ?_ (mul_congP (rfl : r.2 % PP = _) rz).symm)
    exact Z.iff.1 (Z.of1 (a := -(2 * W * (2 * W) * (1 + s))) (by grind) s2)
  · refine rt.trans (Eq.trans ?_ (mul_congP (rfl : (r.1 * r.2) % PP = _) rz).symm)
    exact Z.iff.1 (Z.of2 (a := -(2 * W * (2 * W) * (r.2 * (1 - s)))) (b := -(2 * W * (2 * W) * (p.1*q.2 + p.2*q.1))) (by grind) s1 s2)
/-- Bit by bit, the highest first. -/
def mulQ (P : Q4) (n : Int) : Nat → Q4
  | 0 => ⟨0, 1, 1, 0⟩
  | k + 1 => if n / 2 ^ (255 - k) % 2 = 1 then plusQ (plusQ (mulQ P n k) (mulQ P n k)) P else plusQ (mulQ P n k) (mulQ P n k)
theorem Rep.zero : Rep ⟨0, 1, 1, 0⟩ pz := ⟨not_one, by decide, by decide, by decide, pz_on, pz_cn⟩
theorem Rep.mul {P : Q4} {p : Int × Int} (h : Rep P p) (n : Nat) (hn : n < 2 ^ 256) : ∀ k, k ≤ 256 → Rep (mulQ P n k) (nm p (n / 2 ^ (256 - k)))
  | 0, _ => by
    rw [Nat.div_eq_of_lt (by exact hn)]
    exact Rep.zero
  | k + 1, hk => by
    have ih := Rep.mul h n hn k (by omega)
    obtain ⟨m, hm⟩ : ∃ m, m = n / 2 ^ (255 - k) := ⟨_, rfl⟩
    have e1 : n / 2 ^ (256 - k) = m / 2 := by
      rw [hm, show 256 - k = (255 - k) + 1 by omega, Nat.pow_succ, Nat.div_div_eq_div_mul]
    have e2 : 256 - (k + 1) = 255 - k := by omega
    rw [e1] at ih
    rw [e2, ← hm]
    have ec : ((n : Int) / 2 ^ (255 - k) % 2 = 1) ↔ m % 2 = 1 := by
      have : (n : Int) / 2 ^ (255 - k) = (m : Int) := by rw [hm]; push_cast; rfl
      rw [this]; omega
    have d := ih.plus ih
    rw [← nm_add h.on] at d
    unfold mulQ
    by_cases c : m % 2 = 1
    · rw [if_pos (ec.2 c)]
      have d2 := d.plus h
      have : pa (nm p (m / 2 + m / 2)) p = nm p m := by
        show nm p (m / 2 + m / 2 + 1) = nm p m
        congr 1; omega
      rwa [this] at d2
    · rw [if_neg (fun h => c (ec.1 h))]
      rwa [show m / 2 + m / 2 = m by omega] at d
theorem Rep.mulAll {P : Q4} {p : Int × Int} (h : Rep P p) {n : Nat} (hn : n < 2 ^ 256) : Rep (mulQ P n 256) (nm p n) := by
  have := Rep.mul h n hn 256 (Nat.le_refl _)
  rwa [Nat.sub_self, Nat.pow_zero, Nat.div_one] at this
/-- x and y. -/
def affX (q : Q4) : Int := timesZ q.x (powZ q.z (PP - 2) 256) % PP
def affY (q : Q4) : Int := timesZ q.y (powZ q.z (PP - 2) 256) % PP
theorem pow_iv {a : Int} (h : ¬ Z a) : Z (a * powZ a (PP - 2) 256 - 1) := by
  obtain ⟨e, h1, -, -⟩ := invZ
  have h2 := iv_ok h
  have h3 : iv a % PP = powZ a (PP - 2) 256 % PP := by rw [iv, Int.emod_emod, h1, h1, pow_modP]
  refine Z.iff.2 (Eq.trans ?_ (Z.iff.1 h2))
  exact (mul_congP rfl h3.symm)
theorem Rep.aff {q : Q4} {p : Int × Int} (h : Rep q p) : affX q = p.1 ∧ affY q = p.2 := by
  have hz := pow_iv h.z
  have go : ∀ a b : Int, a % PP = (b * q.z) % PP → 0 ≤ b ∧ b < PP → timesZ a (powZ q.z (PP - 2) 256) % PP = b := by
    intro a b hab hb
    refine Z.can (rmod _) hb ?_
    have h1 := Z.iff.2 (ti hab (rfl : powZ q.z (PP - 2) 256 % PP = _))
    have h2 := Z.mod (timesZ a (powZ q.z (PP - 2) 256))
    exact Z.of3 (a := 1) (b := 1) (c := b) (by grind) h1 h2 hz
  exact ⟨go _ _ h.x h.cn.1, go _ _ h.y h.cn.2⟩
/-- A point's number. -/
def H255 : Int := 57896044618658097711785492504343953926634992332820282019728792003956564819968
def enc (p : Int × Int) : Int := p.2 + H255 * (p.1 % 2)

theorem enc_div {p : Int × Int} (h : cn p) : enc p % H255 = p.2 ∧ enc p / H255 = p.1 % 2 ∧ 0 ≤ enc p ∧ enc p < WW := by
  have hL : PP < H255 ∧ WW = 2 * H255 := by decide
  have h1 := h.2
  have hH : (0:Int) < H255 := by decide
  have b1 : p.1 % 2 = 0 ∨ p.1 % 2 = 1 := by omega
  unfold enc
  refine ⟨?_, ?_, ?_⟩
  · rw [Int.add_mul_emod_self_left, Int.emod_eq_of_lt h1.1 (by omega)]
  · rw [Int.add_mul_ediv_left _ _ (by omega), Int.ediv_eq_zero_of_lt h1.1 (by omega), Int.zero_add]
  · rcases b1 with b | b <;> rw [b] <;> omega
def sqQ (y : Int) : Int := timesZ y y
def argQ (y : Int) : Int := timesZ (minZ (timesZ y y) 1) (powZ (plusZ (timesZ DD (timesZ y y)) 1) (PP - 2) 256)
def rtOK (a : Int) : Prop := timesZ (rootT a) (rootT a) % PP = a % PP
/-- The bytes are a point. -/
def decOK (A : Int) : Prop := A % H255 < PP ∧ rtOK (argQ (A % H255)) ∧ ¬ (A / H255 = 1 ∧ eroot (argQ (A % H255)) = 0)
def decX (A : Int) : Int := if A / H255 = 1 then minZ 0 (eroot (argQ (A % H255))) else eroot (argQ (A % H255))
def decQ (A : Int) : Q4 := ⟨decX A, A % H255, 1, timesZ (decX A) (A % H255)⟩
theorem root_i : ∃ i : Int, Z (i * i + 1) := ⟨moZ, by
    have := mo_sq
    have h : Z (moZ * moZ - (PP - 1)) := Z.iff.2 (by rw [this]; decide)
    have e : moZ * moZ + 1 = (moZ * moZ - (PP - 1)) + 1 * PP := by grind
    rw [e]; exact Z.add h (Z.of1 rfl (Int.dvd_refl _))⟩
theorem den_nz (y : Int) : ¬ Z (DD * (y * y) + 1) := fun h => by
  obtain ⟨i, hi⟩ := root_i
  have h1 : Z y := nonsq (v := i) (Z.of2 (a := 1) (b := -1) (by grind) h hi)
  exact not_one (Z.of2 (a := 1) (b := -(DD * y)) (by grind) h h1)
theorem arg_den (y : Int) : Z (argQ y * (DD * (y * y) + 1) - (y * y - 1)) := by
  have hd : plusZ (timesZ DD (timesZ y y)) 1 % PP = (DD * (y * y) + 1) % PP := pl (ti rfl (ti rfl rfl)) rfl
  have hn : minZ (timesZ y y) 1 % PP = (y * y - 1) % PP := mi (ti rfl rfl) rfl
  have nz : ¬ Z (plusZ (timesZ DD (timesZ y y)) 1) := fun h => den_nz y (Z.of2 (a := 1) (b := -1) (by grind) h (Z.iff.2 hd))
  have hv := pow_iv nz
  have ha := Z.iff.2 (ti hn (rfl : powZ (plusZ (timesZ DD (timesZ y y)) 1) (PP - 2) 256 % PP = _))
  have hd' := Z.iff.2 hd
  show Z (timesZ _ _ * _ - _)
  generalize powZ (plusZ (timesZ DD (timesZ y y)) 1) (PP - 2) 256 = v at *
  generalize plusZ (timesZ DD (timesZ y y)) 1 = e at *
  refine Z.of3 (a := DD * (y * y) + 1) (b := y * y - 1) (c := -(v * (y * y - 1))) ?_ ha hv hd'
  grind
/-- On the curve x squared is what is rooted. -/
theorem arg_sq {x y : Int} (h : onC (x, y)) : argQ y % PP = (x * x) % PP := by
  have h1 := arg_den y
  unfold onC at h
  simp only at h
  exact Z.iff.1 (cancel (den_nz y) (Z.of2 (a := 1) (b := 1) (by grind) h1 h))
theorem arg_on {x y : Int} (h : argQ y % PP = (x * x) % PP) : onC (x, y) := by
  have h1 := arg_den y
  have h2 := Z.iff.2 h
  unfold onC
  simp only
  exact Z.of2 (a := -1) (b := DD * (y * y) + 1) (by grind) h1 h2
theorem rt_ok {p : Int × Int} (h : onC p) (hc : cn p) : rtOK (argQ p.2) := by
  unfold rtOK
  rw [timesZ_mod]
  exact root_ok hc.1.1 (arg_sq h)
theorem eroot_pm {p : Int × Int} (h : onC p) (hc : cn p) : eroot (argQ p.2) = p.1 ∨ (0 < p.1 ∧ eroot (argQ p.2) = PP - p.1) := by
  have h1 := rt_ok h hc
  have h2 := arg_sq h
  have h3 := eroot_sq (argQ p.2)
  have b := eroot_bd (argQ p.2)
  unfold rtOK at h1
  rw [timesZ_mod] at h1
  have h4 : (eroot (argQ p.2) * eroot (argQ p.2)) % PP = (p.1 * p.1) % PP := h3.trans (h1.trans h2)
  generalize eroot (argQ p.2) = r at *
  have hc1 := hc.1
  rcases two_roots PP_nat p25519 h4 with h | h
  · left
    exact Z.can b hc1 (Z.iff.2 h)
  · by_cases c : p.1 = 0
    · left
      rw [c] at h ⊢
      exact Z.can b ⟨by decide, by decide⟩ (Z.iff.2 h)
    · right
      refine ⟨by omega, Z.can b ⟨by omega, by omega⟩ (Z.iff.2 (h.trans ?_))⟩
      rw [show PP - p.1 = -p.1 + PP * 1 by omega, Int.add_mul_emod_self_left]
theorem PP_odd : PP % 2 = 1 := by decide
/-- A point that is written is read again. -/
theorem dec_enc {p : Int × Int} (h : onC p) (hc : cn p) : decOK (enc p) ∧ Rep (decQ (enc p)) p := by
  obtain ⟨e1, e2, -⟩ := enc_div hc
  have hr := eroot_pm h hc
  have he := eroot_even (argQ p.2)
  have hc1 := hc.1
  have ho := PP_odd
  have key : decX (enc p) % PP = p.1 % PP := by
    unfold decX
    rw [e1, e2]
    by_cases c : p.1 % 2 = 1
    · rw [if_pos c, minZ_mod]
      rcases hr with hr | ⟨h0, hr⟩
      · omega
      · rw [hr, show 0 - (PP - p.1) = p.1 + PP * (-1) by omega, Int.add_mul_emod_self_left]
    · rw [if_neg c]
      rcases hr with hr | ⟨h0, hr⟩
      · rw [hr]
      · omega
  refine ⟨⟨?_, ?_, ?_⟩, ?_⟩
  · rw [e1]; exact hc.2.2
  · rw [e1]; exact rt_ok h hc
  · rw [e1, e2]; rintro ⟨a, b⟩
    rcases hr with hr | ⟨h0, hr⟩ <;> omega
  · refine ⟨not_one, ?_, ?_, ?_, h, hc⟩
    · show decX (enc p) % PP = _
      rw [key]; simp only [decQ, Int.mul_one]
    · show (enc p % H255) % PP = _
      rw [e1]; simp only [decQ, Int.mul_one]
    · show timesZ (decX (enc p)) (enc p % H255) % PP = _
      rw [e1, ti key rfl]; simp only [decQ, Int.mul_one]
/-- Bytes that are a point are one's. -/
theorem dec_ok {A : Int} (h0 : 0 ≤ A) (h1 : A < WW) (h : decOK A) : onC (decX A % PP, A % H255) ∧ cn (decX A % PP, A % H255) ∧ Rep (decQ A) (decX A % PP, A % H255) ∧ enc (decX A % PP, A % H255) = A := by
  obtain ⟨a1, a2, a3⟩ := h
  have hH : (0:Int) < H255 := by decide
  have hW : WW = 2 * H255 := by decide
  have y0 := Int.emod_nonneg A (b := H255) (by omega)
  have hd := Int.emod_add_mul_ediv A H255
  have he := eroot_even (argQ (A % H255))
  have hb := eroot_bd (argQ (A % H255))
  have hs := eroot_sq (argQ (A % H255))
  unfold rtOK at a2
  rw [timesZ_mod, ← hs] at a2
  have q01 : A / H255 = 0 ∨ A / H255 = 1 := by
    have : 0 ≤ A / H255 := Int.ediv_nonneg h0 (by omega)
    have : A / H255 < 2 := Int.ediv_lt_of_lt_mul hH (by omega)
    omega
  have ho := PP_odd
  have e_x : decX A = if A / H255 = 1 then minZ 0 (eroot (argQ (A % H255))) else eroot (argQ (A % H255)) := rfl
  have e_q : Rep (decQ A) (decX A % PP, A % H255) ↔ Rep ⟨decX A, A % H255, 1, timesZ (decX A) (A % H255)⟩ (decX A % PP, A % H255) := Iff.rfl
  rw [e_q]
  generalize A % H255 = y at *
  have hm := Int.emod_emod (decX A) PP
  have go : onC (decX A % PP, y) ∧ decX A % PP % 2 = A / H255 := by
    rcases q01 with q | q
    · rw [q, if_neg (by decide)] at e_x
      rw [e_x, Int.emod_eq_of_lt hb.1 hb.2, q]
      exact ⟨arg_on a2.symm, he⟩
    · rw [q, if_pos rfl] at e_x
      have hr : 0 < eroot (argQ y) := by
        rcases Int.lt_or_eq_of_le hb.1 with h | h
        · exact h
        · exact absurd ⟨q, h.symm⟩ a3
      generalize eroot (argQ y) = r at *
      have ev : decX A % PP = PP - r := by
        rw [e_x, minZ_mod, show 0 - r = (PP - r) + PP * (-1) by omega, Int.add_mul_emod_self_left, Int.emod_eq_of_lt (by omega) (by omega)]
      rw [ev, q]
      refine ⟨arg_on (a2.symm.trans (Z.iff.1 ?_)), by omega⟩
      exact Z.of1 (a := 2 * r - PP) (h := PP) (by grind) (Int.dvd_refl _)
  refine ⟨go.1, ⟨rmod _, by omega⟩, ⟨not_one, ?_, ?_, ?_, go.1, ⟨rmod _, by omega⟩⟩, ?_⟩
  · simp only [Int.mul_one]; rw [hm]
  · simp only [Int.mul_one]
  · simp only [Int.mul_one]
    exact ti hm.symm rfl
  · show y + H255 * (decX A % PP % 2) = A
    rw [go.2]; omega
/-- The other side, of bytes. -/
theorem enc_neg {p : Int × Int} (hc : cn p) (h0 : p.1 ≠ 0) : enc (pneg p) = (if p.1 % 2 = 1 then enc p - H255 else enc p + H255) := by
  have ho := PP_odd
  have hc1 := hc.1
  unfold enc pneg
  simp only
  have e : (0 - p.1) % PP = PP - p.1 := by
    rw [show 0 - p.1 = (PP - p.1) + PP * (-1) by omega, Int.add_mul_emod_self_left, Int.emod_eq_of_lt (by omega) (by omega)]
  rw [e]
  split <;> rename_i c
  · rw [c, show (PP - p.1) % 2 = 0 by omega]; omega
  · rw [show p.1 % 2 = 0 by omega, show (PP - p.1) % 2 = 1 by omega]; omega
/-- x nought has one sign alone. -/
theorem dec_flip0 {p : Int × Int} (h : onC p) (hc : cn p) (h0 : p.1 = 0) : ¬ decOK (enc p + H255) := by
  rintro ⟨-, -, h3⟩
  have hH : (0:Int) < H255 := by decide
  have hL : PP < H255 := by decide
  have hc2 := hc.2
  have e : enc p = p.2 := by unfold enc; rw [h0]; simp
  apply h3
  have e2 : (enc p + H255) % H255 = p.2 := by rw [e, Int.add_emod_right, Int.emod_eq_of_lt hc2.1 (by omega)]
  rw [e2]
  refine ⟨?_, ?_⟩
  · rw [e, Int.add_ediv_of_dvd_right (Int.dvd_refl _), Int.ediv_eq_zero_of_lt hc2.1 (by omega), Int.ediv_self (by omega)]; rfl
  · rcases eroot_pm h hc with hr | ⟨h4, -⟩
    · rw [hr, h0]
    · omega
/-- The base. -/
def BP : Int × Int := (15112221349535400772501151409588531511454012693041857206046113283949847762202, 46316835694926478169428394003475163141307993866256225615783033603165251855960)
theorem BP_on : onC BP := by unfold onC BP DD Z PP; decide +kernel
theorem BP_cn : cn BP := by unfold cn; decide +kernel
end Go.Bx
