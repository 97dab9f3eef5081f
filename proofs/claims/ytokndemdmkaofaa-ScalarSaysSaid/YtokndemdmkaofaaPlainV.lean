/- Plain law of a long multiplication in bytes. No program, no condition. -/
import Derived.Test.YtokndemdmkaofaaSxS
namespace Go.Bx
def addRow (i k : Nat) (a b t : List Int) : List Int := (List.range 65).map fun p => t.getD p 0 + (if i ≤ p ∧ p < i + k then a.getD i 0 * b.getD (p - i) 0 else 0)
def carry1 (k : Nat) (t : List Int) : List Int := (t.set (k + 1) (t.getD (k + 1) 0 + t.getD k 0 / 256)).set k ((t.set (k + 1) (t.getD (k + 1) 0 + t.getD k 0 / 256)).getD k 0 % 256)
def carryN : Nat → List Int → List Int
  | 0, t => t
  | n + 1, t => carry1 n (carryN n t)
def prodN (a b t : List Int) : Nat → List Int
  | 0 => t
  | n + 1 => carryN 64 (addRow n 32 a b (prodN a b t n))
def rowL (s : List Int) : List Int := s.getD 0 0 :: 32 :: ((s.drop 2).take 64 ++ addRow (s.getD 0 0).toNat 32 ((s.drop 2).take 32) ((s.drop 34).take 32) ((s.drop 66).take 65))
def carryL (s : List Int) : List Int := s.getD 0 0 :: 64 :: ((s.drop 2).take 64 ++ carryN 64 ((s.drop 66).take 65))
def prodL (s : List Int) : List Int := 32 :: ((s.drop 1).take 64 ++ prodN ((s.drop 1).take 32) ((s.drop 33).take 32) ((s.drop 65).take 65) 32)
def Small (n : Int) (t : List Int) : Prop := ∀ z ∈ t, 0 ≤ z ∧ z < n
def rowP (s : List Int) : Prop := 0 ≤ s.getD 0 0 ∧ s.getD 0 0 < 32 ∧ s.getD 1 0 = 0 ∧ Small 65536 ((s.drop 66).take 65)
def carryP (s : List Int) : Prop := s.getD 1 0 = 0 ∧ Small 131072 ((s.drop 66).take 65)
def prodP (s : List Int) : Prop := s.getD 0 0 = 0 ∧ (s.drop 65).take 65 = List.replicate 65 0
theorem addRow_len (i k : Nat) (a b t : List Int) : (addRow i k a b t).length = 65 := by simp [addRow]
theorem addRow_get {i k p : Nat} {a b t : List Int} (h : p < 65) : (addRow i k a b t).getD p 0 = t.getD p 0 + (if i ≤ p ∧ p < i + k then a.getD i 0 * b.getD (p - i) 0 else 0) := by
  simp only [addRow, List.getD_eq_getElem?_getD, List.getElem?_map]
  rw [List.getElem?_range h]; rfl
theorem list_getD {l m : List Int} (hl : l.length = m.length) (h : ∀ p, p < l.length → l.getD p 0 = m.getD p 0) : l = m := by
  apply List.ext_getElem hl
  intro p h1 h2
  have := h p h1
  simpa [List.getD_eq_getElem?_getD, h1, h2] using this
theorem addRow_zero {i : Nat} {a b t : List Int} (hl : t.length = 65) : addRow i 0 a b t = t := by
  refine list_getD (by rw [addRow_len, hl]) fun p hp => ?_
  rw [addRow_len] at hp
  rw [addRow_get hp, if_neg (by omega), Int.add_zero]
theorem addRow_succ {i k : Nat} {a b t : List Int} (h : i + k < 65) : (addRow i k a b t).set (i + k) ((addRow i k a b t).getD (i + k) 0 + a.getD i 0 * b.getD k 0) = addRow i (k + 1) a b t := by
  refine list_getD (by simp [addRow]) fun p hp => ?_
  rw [List.length_set, addRow_len] at hp
  rw [getD_set (by rw [addRow_len]; exact h), addRow_get hp, addRow_get h]
  by_cases e : p = i + k
  · subst e
    rw [if_pos rfl, if_neg (by omega), Int.add_zero, addRow_get h, if_pos (by omega), Nat.add_sub_cancel_left]
  · rw [if_neg e, addRow_get hp]
    by_cases q : i ≤ p ∧ p < i + k
    · rw [if_pos q, if_pos (by omega)]
    · rw [if_neg q, if_neg (by omega)]
theorem addRow_dv {i : Nat} {a b t : List Int} (ht : t.length = 65) : ∀ {k : Nat}, k ≤ b.length → i + k ≤ 65 → dv 256 (addRow i k a b t) = dv 256 t + 256 ^ i * (a.getD i 0 * dv 256 (b.take k))
  | 0, _, _ => by rw [addRow_zero ht]; simp [dv]
  | k + 1, hb, hk => by
    have ih := addRow_dv (i := i) (a := a) (b := b) ht (k := k) (by omega) (by omega)
    rw [← addRow_succ (by omega), dv_set (by rw [addRow_len]; omega), ih, dv_take (by omega), Int.pow_add]
    grind
theorem carry1_len (k : Nat) (t : List Int) : (carry1 k t).length = t.length := by simp [carry1]
theorem carryN_len (t : List Int) : ∀ n, (carryN n t).length = t.length
  | 0 => rfl
  | n + 1 => by rw [carryN, carry1_len, carryN_len]
theorem carry1_get {k p : Nat} {t : List Int} (h : k + 1 < t.length) : (carry1 k t).getD p 0 = if p = k then t.getD k 0 % 256 else if p = k + 1 then t.getD (k + 1) 0 + t.getD k 0 / 256 else t.getD p 0 := by
  unfold carry1
  rw [getD_set (by rw [List.length_set]; omega), getD_set h, getD_set h, if_neg (show ¬ k = k + 1 by omega)]
theorem carry1_dv {k : Nat} {t : List Int} (h : k + 1 < t.length) : dv 256 (carry1 k t) = dv 256 t := by
  unfold carry1
  rw [dv_set (by rw [List.length_set]; omega), dv_set h, getD_set h, if_neg (show ¬ k = k + 1 by omega), Int.pow_succ]
  have e : t.getD k 0 = 256 * (t.getD k 0 / 256) + t.getD k 0 % 256 := by omega
  generalize t.getD k 0 / 256 = q at *
  generalize t.getD k 0 % 256 = r at *
  rw [e]
  generalize (256 : Int) ^ k = w
  grind
theorem carryN_dv {t : List Int} : ∀ {n : Nat}, n < t.length → dv 256 (carryN n t) = dv 256 t
  | 0, _ => rfl
  | n + 1, h => by rw [carryN, carry1_dv (by rw [carryN_len]; omega), carryN_dv (by omega)]
theorem carryN_get {t : List Int} (ht : ∀ p, p < t.length → 0 ≤ t.getD p 0 ∧ t.getD p 0 < 131072) : ∀ {n : Nat}, n < t.length → ∀ p, p < t.length → 0 ≤ (carryN n t).getD p 0 ∧ (p < n → (carryN n t).getD p 0 < 256) ∧ (p = n → (carryN n t).getD p 0 < 262144) ∧ (n < p → (carryN n t).getD p 0 < 131072)
  | 0, h, p, hp => ⟨(ht p hp).1, fun h => by omega, fun _ => by have := (ht p hp).2; show t.getD p 0 < _; omega, fun _ => (ht p hp).2⟩
  | n + 1, h, p, hp => by
    have ih := carryN_get ht (n := n) (by omega)
    have hn := ih n (by omega)
    have hn1 := ih (n + 1) (by omega)
    have hpp := ih p hp
    rw [carryN, carry1_get (by rw [carryN_len]; omega)]
    have a1 := hn.2.2.1 rfl
    have a2 := hn1.2.2.2 (by omega)
    by_cases e1 : p = n
    · rw [if_pos e1]; refine ⟨by omega, fun _ => by omega, fun _ => by omega, fun _ => by omega⟩
    · rw [if_neg e1]
      by_cases e2 : p = n + 1
      · rw [if_pos e2]; refine ⟨by omega, fun _ => by omega, fun _ => by omega, fun _ => by omega⟩
      · rw [if_neg e2]
        refine ⟨hpp.1, fun q => hpp.2.1 (by omega), fun q => absurd q e2, fun q => hpp.2.2.2 (by omega)⟩
theorem small_get {n : Int} {t : List Int} (h : Small n t) {p : Nat} (hp : p < t.length) : 0 ≤ t.getD p 0 ∧ t.getD p 0 < n := h _ (getD_mem hp)
theorem small_of {n : Int} {t : List Int} (h : ∀ p, p < t.length → 0 ≤ t.getD p 0 ∧ t.getD p 0 < n) : Small n t := fun z hz => by
  obtain ⟨p, hp, rfl⟩ := List.mem_iff_getElem.1 hz
  have := h p hp
  simpa [List.getD_eq_getElem?_getD, hp] using this
theorem dig_get {l : List Int} (hd : Dig 256 l) {i : Nat} (hi : i < l.length) : 0 ≤ l.getD i 0 ∧ l.getD i 0 < 256 := hd.d _ (getD_mem hi)
theorem addRow_small {i : Nat} {a b t : List Int} (ha : Dig 256 a) (hb : Dig 256 b) (la : a.length = 32) (lb : b.length = 32) (lt : t.length = 65) (hi : i < 32) (ht : Small 65536 t) : Small 131072 (addRow i 32 a b t) :=
  small_of fun p hp => by
    rw [addRow_len] at hp
    have h1 := small_get ht (p := p) (by omega)
    rw [addRow_get hp]
    have h2 := dig_get ha (i := i) (by omega)
    split
    · rename_i q
      have h3 := dig_get hb (i := p - i) (by omega)
      have h4 := Int.mul_nonneg h2.1 h3.1
      have h5 : a.getD i 0 * b.getD (p - i) 0 ≤ 255 * 255 := Int.mul_le_mul (by omega) (by omega) h3.1 (by decide)
      omega
    · omega
theorem dig_take {l : List Int} (hd : Dig 256 l) (n : Nat) : Dig 256 (l.take n) := ⟨fun x hx => hd.d x (List.mem_of_mem_take hx)⟩
/-- What the loop has made after so many rounds. -/
theorem prodN_ok {a b : List Int} (ha : Dig 256 a) (hb : Dig 256 b) (la : a.length = 32) (lb : b.length = 32) : ∀ n, n ≤ 32 → (prodN a b (List.replicate 65 0) n).length = 65 ∧ Small 256 (prodN a b (List.replicate 65 0) n) ∧ (prodN a b (List.replicate 65 0) n).getD 64 0 = 0 ∧ dv 256 (prodN a b (List.replicate 65 0) n) = dv 256 (a.take n) * dv 256 b
  | 0, _ => ⟨by simp [prodN], fun z hz => by
      have := List.eq_of_mem_replicate (show z ∈ List.replicate 65 (0 : Int) from hz)
      subst this; decide, rfl, by
      have : dv 256 (List.replicate 65 0) = 0 := by decide +kernel
      show dv 256 (List.replicate 65 0) = dv 256 [] * _
      rw [this]; simp [dv]⟩
  | n + 1, hn => by
    obtain ⟨i1, i2, i3, i4⟩ := prodN_ok ha hb la lb n (by omega)
    obtain ⟨t, ht⟩ : ∃ t, t = prodN a b (List.replicate 65 0) n := ⟨_, rfl⟩
    rw [← ht] at i1 i2 i3 i4
    have e : prodN a b (List.replicate 65 0) (n + 1) = carryN 64 (addRow n 32 a b t) := by rw [prodN, ht]
    rw [e]
    have hs := addRow_small (i := n) ha hb la lb i1 (by omega) (fun z hz => ⟨(i2 z hz).1, by have := (i2 z hz).2; omega⟩ : Small 65536 t)
    have hg := carryN_get (t := addRow n 32 a b t) (fun p hp => small_get hs hp) (n := 64) (by rw [addRow_len]; omega)
    have hdv : dv 256 (carryN 64 (addRow n 32 a b t)) = dv 256 (a.take (n + 1)) * dv 256 b := by
      rw [carryN_dv (by rw [addRow_len]; omega), addRow_dv i1 (by omega) (by omega), i4, dv_take (l := a) (i := n) (by omega), List.take_of_length_le (show b.length ≤ 32 by omega)]
      grind
    have hlen : (carryN 64 (addRow n 32 a b t)).length = 65 := by rw [carryN_len, addRow_len]
    generalize carryN 64 (addRow n 32 a b t) = u at *
    rw [addRow_len] at hg
    have hu : dv 256 u = dv 256 (u.take 64) + 256 ^ 64 * u.getD 64 0 := by
      have := dv_take (b := 256) (l := u) (i := 64) (by omega)
      rw [List.take_of_length_le (by omega)] at this; exact this
    have hd : Dig 256 (u.take 64) := ⟨fun x hx => by
      obtain ⟨p, hp, rfl⟩ := List.mem_iff_getElem.1 hx
      rw [List.length_take] at hp
      have h1 := hg p (by omega)
      have h2 := h1.2.1 (by omega)
      have h3 : u.getD p 0 = (u.take 64)[p] := by rw [List.getElem_take, List.getD_eq_getElem?_getD, List.getElem?_eq_getElem (by omega)]; rfl
      rw [← h3]; exact ⟨h1.1, h2⟩⟩
    have b1 := dv_bound (by decide) hd
    have b2 := dv_bound (by decide) (dig_take ha (n + 1))
    have b3 := dv_bound (by decide) hb
    have l1 : (a.take (n + 1)).length = n + 1 := by rw [List.length_take]; omega
    have l2 : (u.take 64).length = 64 := by rw [List.length_take]; omega
    rw [l1] at b2; rw [lb] at b3; rw [l2] at b1
    have hp32 : (256 : Int) ^ (n + 1) ≤ 256 ^ 32 := by
      have := Nat.pow_le_pow_right (n := 256) (by omega) (show n + 1 ≤ 32 by omega)
      have h2 : ((256 ^ (n + 1) : Nat) : Int) ≤ ((256 ^ 32 : Nat) : Int) := Int.ofNat_le.2 this
      rw [Int.natCast_pow, Int.natCast_pow] at h2; exact h2
    have b4 : dv 256 (a.take (n + 1)) * dv 256 b < 256 ^ 32 * 256 ^ 32 := by
      refine Int.lt_of_le_of_lt (Int.mul_le_mul_of_nonneg_left (Int.le_of_lt b3.2) b2.1) (Int.mul_lt_mul_of_pos_right (by omega) (by decide))
    have b5 : (256 : Int) ^ 32 * 256 ^ 32 = 256 ^ 64 := by decide
    have h64 := (hg 64 (by omega)).1
    rw [b5, ← hdv, hu] at b4
    have e64 : u.getD 64 0 = 0 := by
      rcases Int.lt_or_le (u.getD 64 0) 1 with h | h
      · omega
      · have : (256 : Int) ^ 64 * 1 ≤ 256 ^ 64 * u.getD 64 0 := Int.mul_le_mul_of_nonneg_left h (by decide)
        omega
    refine ⟨hlen, small_of fun p hp => ?_, e64, hdv⟩
    have h1 := hg p (by omega)
    refine ⟨h1.1, ?_⟩
    rcases Nat.lt_or_ge p 64 with h | h
    · exact h1.2.1 h
    · have : p = 64 := by omega
      subst this; omega
/-- The product's bytes. -/
theorem prodN_bytes {a b : List Int} (ha : Dig 256 a) (hb : Dig 256 b) (la : a.length = 32) (lb : b.length = 32) : (prodN a b (List.replicate 65 0) 32).take 64 = dg 256 64 (dv 256 a * dv 256 b) := by
  obtain ⟨i1, i2, i3, i4⟩ := prodN_ok ha hb la lb 32 (by omega)
  generalize prodN a b (List.replicate 65 0) 32 = u at *
  have hu : dv 256 u = dv 256 (u.take 64) + 256 ^ 64 * u.getD 64 0 := by
    have := dv_take (b := 256) (l := u) (i := 64) (by omega)
    rw [List.take_of_length_le (by omega)] at this; exact this
  refine dg_eq (by decide) (by rw [List.length_take]; omega) ⟨fun x hx => i2 x (List.mem_of_mem_take hx)⟩ ?_
  rw [i3, Int.mul_zero, Int.add_zero] at hu
  rw [← hu, i4, List.take_of_length_le (by omega)]
end Go.Bx
