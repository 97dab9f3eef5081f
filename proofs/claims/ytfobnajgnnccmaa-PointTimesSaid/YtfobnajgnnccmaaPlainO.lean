/- The base point's order: so many times the base is nothing. No condition. -/
import Derived.Test.YtfobnajgnnccmaaPlainE
namespace Go.Bx
/-- A number reckoned ahead. -/
def fc {α : Type} (n : Nat) (f : Nat → α) : α := Nat.rec (f 0) (fun m _ => f (Nat.succ m)) n
theorem fc_eq {α : Type} (n : Nat) (f : Nat → α) : fc n f = f n := by cases n <;> rfl
def pN : Nat := 57896044618658097711785492504343953926634992332820282019728792003956564819949
def dN : Nat := 37095705934669439343138083508754565189542113879843219016388785533085940283555
def xN : Nat := 15112221349535400772501151409588531511454012693041857206046113283949847762202
def yN : Nat := 46316835694926478169428394003475163141307993866256225615783033603165251855960
def tN : Nat := xN * yN % pN
def addN {α : Type} (x1 y1 z1 t1 x2 y2 z2 t2 : Nat) (k : Nat → Nat → Nat → Nat → α) : α :=
  fc ((y1 + pN - x1) * (y2 + pN - x2) % pN) fun a => fc ((y1 + x1) * (y2 + x2) % pN) fun b => fc (t1 * t2 * dN * 2 % pN) fun c => fc (z1 * z2 * 2 % pN) fun z =>
  fc ((b + pN - a) % pN) fun e => fc ((z + pN - c) % pN) fun f => fc ((z + c) % pN) fun g => fc ((b + a) % pN) fun h =>
  fc (e * f % pN) fun x => fc (g * h % pN) fun y => fc (f * g % pN) fun zz => fc (e * h % pN) fun t => k x y zz t
def loopN (n : Nat) : Nat → Nat → Nat → Nat → Nat → Bool
  | 0, x, y, z, _ => Nat.beq (x % pN) 0 && Nat.beq (y % pN) (z % pN)
  | i + 1, x, y, z, t => addN x y z t x y z t fun x y z t => if Nat.beq (n / 2 ^ i % 2) 1 then addN x y z t xN yN 1 tN fun x y z t => loopN n i x y z t else loopN n i x y z t
theorem Rep.congr {q q' : Q4} {p : Int × Int} (h : Rep q p) (hx : q'.x % PP = q.x % PP) (hy : q'.y % PP = q.y % PP) (hz : q'.z % PP = q.z % PP) (ht : q'.t % PP = q.t % PP) : Rep q' p := by
  refine ⟨fun h0 => h.z ?_, ?_, ?_, ?_, h.on, h.cn⟩
  · have := Z.iff.2 hz
    exact Z.of2 (a := 1) (b := -1) (by grind) h0 this
  · rw [hx, h.x]; exact (mul_congP rfl hz).symm
  · rw [hy, h.y]; exact (mul_congP rfl hz).symm
  · rw [ht, h.t]; exact (mul_congP rfl hz).symm
theorem pN_eq : (pN : Int) = PP := by decide
theorem dN_eq : (dN : Int) = DD := by decide
theorem cm (a : Nat) : ((a % pN : Nat) : Int) % PP = (a : Int) % PP := by rw [← pN_eq]; push_cast; exact Int.emod_emod _ _
theorem csub {a b : Nat} (h : b < pN) : ((a + pN - b : Nat) : Int) % PP = ((a : Int) - b) % PP := by
  rw [← pN_eq, show ((a + pN - b : Nat) : Int) = ((a : Int) - b) + pN * 1 by omega, Int.add_mul_emod_self_left]
def N4 (x y z t : Nat) : Q4 := ⟨x, y, z, t⟩
theorem plusQ_x (p q : Q4) : (plusQ p q).x = timesZ (eQ p q) (fQ p q) := by simp only [plusQ]
theorem plusQ_y (p q : Q4) : (plusQ p q).y = timesZ (gQ p q) (hQ p q) := by simp only [plusQ]
theorem plusQ_z (p q : Q4) : (plusQ p q).z = timesZ (fQ p q) (gQ p q) := by simp only [plusQ]
theorem plusQ_t (p q : Q4) : (plusQ p q).t = timesZ (eQ p q) (hQ p q) := by simp only [plusQ]
theorem addN_ok {α : Type} {x1 y1 z1 t1 x2 y2 z2 t2 : Nat} (h1 : x1 < pN) (h2 : x2 < pN) {p q : Int × Int} (hp : Rep (N4 x1 y1 z1 t1) p) (hq : Rep (N4 x2 y2 z2 t2) q) (k : Nat → Nat → Nat → Nat → α) :
    ∃ x y z t, x < pN ∧ addN x1 y1 z1 t1 x2 y2 z2 t2 k = k x y z t ∧ Rep (N4 x y z t) (pa p q) := by
  have hpos : 0 < pN := by decide
  unfold addN
  simp only [fc_eq]
  refine ⟨_, _, _, _, Nat.mod_lt _ hpos, rfl, ?_⟩
  have hr := hp.plus hq
  have ea : (((y1 + pN - x1) * (y2 + pN - x2) % pN : Nat) : Int) % PP = timesZ (minZ (y1 : Int) x1) (minZ (y2 : Int) x2) % PP := by
    rw [cm, ti (minZ_mod _ _) (minZ_mod _ _)]; push_cast [-Int.natCast_sub]; exact mul_congP (csub h1) (csub h2)
  have eb : (((y1 + x1) * (y2 + x2) % pN : Nat) : Int) % PP = timesZ (plusZ (y1 : Int) x1) (plusZ (y2 : Int) x2) % PP := by
    rw [cm, ti (plusZ_mod _ _) (plusZ_mod _ _)]; push_cast; rfl
  have ec : ((t1 * t2 * dN * 2 % pN : Nat) : Int) % PP = cQ (N4 x1 y1 z1 t1) (N4 x2 y2 z2 t2) % PP := by
    rw [cm, cQ, pl (ti (ti rfl rfl) rfl) (ti (ti rfl rfl) rfl)]; push_cast; rw [dN_eq]
    exact congrArg (· % PP) (by simp only [N4]; grind)
  have ez : ((z1 * z2 * 2 % pN : Nat) : Int) % PP = zQ (N4 x1 y1 z1 t1) (N4 x2 y2 z2 t2) % PP := by
    rw [cm, zQ, pl (ti rfl rfl) (ti rfl rfl)]; push_cast
    exact congrArg (· % PP) (by simp only [N4]; grind)
  generalize hA : (y1 + pN - x1) * (y2 + pN - x2) % pN = a at *
  generalize (y1 + x1) * (y2 + x2) % pN = b at *
  generalize hC : t1 * t2 * dN * 2 % pN = c at *
  generalize z1 * z2 * 2 % pN = z at *
  have la : a < pN := by rw [← hA]; exact Nat.mod_lt _ hpos
  have lc : c < pN := by rw [← hC]; exact Nat.mod_lt _ hpos
  have ee : (((b + pN - a) % pN : Nat) : Int) % PP = eQ (N4 x1 y1 z1 t1) (N4 x2 y2 z2 t2) % PP := by
    rw [cm, csub la]; exact (mi eb.symm ea.symm).symm
  have ef : (((z + pN - c) % pN : Nat) : Int) % PP = fQ (N4 x1 y1 z1 t1) (N4 x2 y2 z2 t2) % PP := by
    rw [cm, csub lc]; exact (mi ez.symm ec.symm).symm
  have eg : (((z + c) % pN : Nat) : Int) % PP = gQ (N4 x1 y1 z1 t1) (N4 x2 y2 z2 t2) % PP := by
    rw [cm]; push_cast; exact (pl ez.symm ec.symm).symm
  have eh : (((b + a) % pN : Nat) : Int) % PP = hQ (N4 x1 y1 z1 t1) (N4 x2 y2 z2 t2) % PP := by
    rw [cm]; push_cast; exact (pl eb.symm ea.symm).symm
  generalize (b + pN - a) % pN = e at *
  generalize (z + pN - c) % pN = f at *
  generalize (z + c) % pN = g at *
  generalize (b + a) % pN = h at *
  have q1 : ((e * f % pN : Nat) : Int) % PP = (plusQ (N4 x1 y1 z1 t1) (N4 x2 y2 z2 t2)).x % PP := by
    rw [plusQ_x, cm, timesZ_mod]; push_cast; exact mul_congP ee ef
  have q2 : ((g * h % pN : Nat) : Int) % PP = (plusQ (N4 x1 y1 z1 t1) (N4 x2 y2 z2 t2)).y % PP := by
    rw [plusQ_y, cm, timesZ_mod]; push_cast; exact mul_congP eg eh
  have q3 : ((f * g % pN : Nat) : Int) % PP = (plusQ (N4 x1 y1 z1 t1) (N4 x2 y2 z2 t2)).z % PP := by
    rw [plusQ_z, cm, timesZ_mod]; push_cast; exact mul_congP ef eg
  have q4 : ((e * h % pN : Nat) : Int) % PP = (plusQ (N4 x1 y1 z1 t1) (N4 x2 y2 z2 t2)).t % PP := by
    rw [plusQ_t, cm, timesZ_mod]; push_cast; exact mul_congP ee eh
  generalize e * f % pN = x at *
  generalize g * h % pN = y at *
  generalize f * g % pN = zz at *
  generalize e * h % pN = t at *
  exact Rep.congr (q' := N4 x y zz t) hr q1 q2 q3 q4
theorem BN_rep : Rep (N4 xN yN 1 tN) BP := ⟨not_one, by decide, by decide, by decide +kernel, BP_on, BP_cn⟩
theorem loopN_ok (n : Nat) : ∀ (i m x y z t : Nat), x < pN → Rep (N4 x y z t) (nm BP m) → loopN n i x y z t = true → nm BP (m * 2 ^ i + n % 2 ^ i) = pz
  | 0, m, x, y, z, t, hx, hr, h => by
    rw [Nat.pow_zero, Nat.mod_one, Nat.mul_one, Nat.add_zero]
    unfold loopN at h
    rw [Bool.and_eq_true] at h
    have e1 := Nat.eq_of_beq_eq_true h.1
    have e2 := Nat.eq_of_beq_eq_true h.2
    have zx : Z ((x : Int) - 0) := Z.iff.2 (by rw [← cm x, e1]; rfl)
    have zy : Z ((y : Int) - z) := Z.iff.2 (by rw [← cm y, ← cm z, e2])
    have hz := hr.z
    have h1 := Z.iff.2 hr.x
    have h2 := Z.iff.2 hr.y
    simp only [N4] at hz h1 h2
    refine cn_ext hr.cn pz_cn (cancel hz ?_) (cancel hz ?_)
    · simp only [pz]; exact Z.of2 (a := -1) (b := 1) (by grind) h1 zx
    · simp only [pz]; exact Z.of2 (a := -1) (b := 1) (by grind) h2 zy
  | i + 1, m, x, y, z, t, hx, hr, h => by
    have hd := hr.plus hr
    unfold loopN at h
    obtain ⟨x', y', z', t', hx', e, hr'⟩ := addN_ok hx hx hr hr (fun x y z t => if Nat.beq (n / 2 ^ i % 2) 1 then addN x y z t xN yN 1 tN fun x y z t => loopN n i x y z t else loopN n i x y z t)
    rw [e] at h
    rw [← nm_add BP_on] at hr'
    have hs : n % 2 ^ (i + 1) = n % 2 ^ i + 2 ^ i * (n / 2 ^ i % 2) := by rw [Nat.pow_succ, Nat.mod_mul]
    by_cases c : n / 2 ^ i % 2 = 1
    · rw [if_pos (by rw [c]; rfl)] at h
      obtain ⟨x2, y2, z2, t2, hx2, e2, hr2⟩ := addN_ok hx' (by decide : xN < pN) hr' BN_rep (fun x y z t => loopN n i x y z t)
      rw [e2] at h
      have := loopN_ok n i (m + m + 1) x2 y2 z2 t2 hx2 hr2 h
      rw [← this, hs, c, Nat.pow_succ]
      congr 1
      grind
    · have c0 : n / 2 ^ i % 2 = 0 := by omega
      rw [if_neg (by rw [c0]; decide)] at h
      have := loopN_ok n i (m + m) x' y' z' t' hx' hr' h
      rw [← this, hs, c0, Nat.pow_succ]
      congr 1
      grind
def LN : Nat := 7237005577332262213973186563042994240857116359379907606001950938285454250989
theorem orderB : nm BP LN = pz := by
  have h : loopN LN 253 0 1 1 0 = true := by decide +kernel
  have := loopN_ok LN 253 0 0 1 1 0 (by decide) (show Rep (N4 0 1 1 0) (nm BP 0) from Rep.zero) h
  rw [Nat.zero_mul, Nat.zero_add, Nat.mod_eq_of_lt (by decide +kernel)] at this
  exact this
theorem nmL (n : Nat) : nm BP (n % LN) = nm BP n := (nm_mod BP_on orderB n).symm
end Go.Bx
