/- Plain law of numbers group by group: how they are written, how they are read. No program, no condition. -/
namespace Go.Bx

def encF : Nat → Nat → List UInt8
  | 0, v => [UInt8.ofNat v]
  | k + 1, v => if v < 128 then [UInt8.ofNat v] else UInt8.ofNat (v % 128 + 128) :: encF k (v / 128)
def enc (v : Nat) : List UInt8 := encF 16 v

theorem encF_more (k : Nat) : ∀ v, v < 128 ^ (k + 1) → encF k v = encF (k + 1) v := by
  induction k with
  | zero => intro v hv; simp only [encF]; rw [if_pos (by omega)]
  | succ k ih =>
    intro v hv
    rw [encF, encF]
    by_cases h : v < 128
    · rw [if_pos h, if_pos h]
    · rw [if_neg h, if_neg h, ih (v / 128) (by rw [Nat.pow_succ] at hv; exact Nat.div_lt_of_lt_mul (by omega))]
theorem enc_small (v : Nat) (h : v < 128) : enc v = [UInt8.ofNat v] := by
  unfold enc; rw [encF, if_pos h]
theorem enc_big (v : Nat) (h : ¬ v < 128) (hv : v < 2 ^ 63) : enc v = UInt8.ofNat (v % 128 + 128) :: enc (v / 128) := by
  unfold enc
  rw [encF, if_neg h, encF_more 15 (v / 128) (by omega)]
theorem encF_len (k : Nat) : ∀ v, 1 ≤ (encF k v).length ∧ (encF k v).length ≤ k + 1 := by
  induction k with
  | zero => intro v; simp [encF]
  | succ k ih =>
    intro v
    rw [encF]
    by_cases h : v < 128
    · rw [if_pos h]; simp
    · rw [if_neg h, List.length_cons]; have := ih (v / 128); omega
theorem enc_pos (v : Nat) : 1 ≤ (enc v).length := (encF_len 16 v).1
theorem enc_len_lt (k : Nat) : ∀ v, v < 128 ^ k → v < 2 ^ 63 → 1 ≤ k → (enc v).length ≤ k := by
  induction k with
  | zero => intro v _ _ h; omega
  | succ k ih =>
    intro v hv h63 _
    by_cases h : v < 128
    · rw [enc_small v h]; simp
    · rw [enc_big v h h63, List.length_cons]
      have hk : 1 ≤ k := by
        cases k with
        | zero => omega
        | succ k => omega
      have := ih (v / 128) (by rw [Nat.pow_succ] at hv; exact Nat.div_lt_of_lt_mul (by omega)) (by omega) hk
      omega
theorem enc_len (v : Nat) (h : v < 2 ^ 63) : (enc v).length ≤ 9 := enc_len_lt 9 v (by omega) h (by omega)
/-- A greater number never has fewer bytes. -/
theorem enc_mono : ∀ (n a b : Nat), a ≤ n → a ≤ b → b < 2 ^ 63 → (enc a).length ≤ (enc b).length := by
  intro n
  induction n using Nat.strongRecOn with
  | _ n ih =>
    intro a b han hab hb
    by_cases h : a < 128
    · rw [enc_small a h]; have := enc_pos b; simpa using this
    · rw [enc_big a h (by omega), enc_big b (by omega) hb, List.length_cons, List.length_cons]
      have := ih (a / 128) (by omega) (a / 128) (b / 128) (Nat.le_refl _) (Nat.div_le_div_right hab) (by omega)
      omega

/-- How a number is read: what is behind it, and it; none: bad. i: how many bytes were read, v: so far. -/
def decF : Nat → Nat → Nat → List UInt8 → Option (Nat × List UInt8)
  | 0, _, _, _ => none
  | _ + 1, _, _, [] => none
  | k + 1, i, v, c :: l =>
    if 128 ≤ c.toNat then decF k (i + 1) (v + (c.toNat - 128) * 128 ^ i) l
    else if i > 0 ∧ c.toNat = 0 then none
    else some (v + c.toNat * 128 ^ i, l)
def dec (most : Nat) (l : List UInt8) : Option (Nat × List UInt8) :=
  match decF 9 0 0 l with
  | some (v, r) => if v ≤ most then some (v, r) else none
  | none => none

theorem ofNat_toNat (n : Nat) (h : n < 256) : (UInt8.ofNat n).toNat = n := by
  rw [UInt8.toNat_ofNat']; omega
theorem decF_enc (k : Nat) : ∀ (v i acc : Nat) (r : List UInt8), v < 2 ^ 63 → (enc v).length ≤ k → (0 < v ∨ i = 0) → decF k i acc (enc v ++ r) = some (acc + v * 128 ^ i, r) := by
  induction k with
  | zero => intro v i acc r _ h _; have := enc_pos v; omega
  | succ k ih =>
    intro v i acc r hv hk hz
    by_cases h : v < 128
    · rw [enc_small v h]
      simp only [List.singleton_append, decF]
      rw [ofNat_toNat v (by omega), if_neg (by omega), if_neg (by omega)]
    · rw [enc_big v h hv, List.cons_append, decF, ofNat_toNat _ (by omega), if_pos (by omega)]
      rw [enc_big v h hv, List.length_cons] at hk
      rw [ih (v / 128) (i + 1) _ r (by omega) (by omega) (.inl (by omega))]
      congr 2
      rw [Nat.pow_succ, Nat.add_sub_cancel]
      have e : v = v % 128 + 128 * (v / 128) := by omega
      generalize v % 128 = x at e
      generalize v / 128 = y at e
      subst e
      rw [Nat.add_mul, Nat.add_assoc, Nat.mul_assoc, Nat.mul_comm 128 (y * 128 ^ i), Nat.mul_assoc]
theorem dec_enc (v most : Nat) (r : List UInt8) (hv : v < 2 ^ 63) : dec most (enc v ++ r) = if v ≤ most then some (v, r) else none := by
  unfold dec
  rw [decF_enc 9 v 0 0 r hv (enc_len v hv) (.inr rfl)]
  simp
/- One round of the reading. -/
section
variable {l : List UInt8} {k acc most : Nat}
theorem decF_more (hk : k < 9) (hl : k < l.length) (hc : 128 ≤ l[k].toNat) (h : decF 9 0 0 l = decF (9 - k) k acc (l.drop k)) :
    decF 9 0 0 l = decF (9 - (k + 1)) (k + 1) (acc + (l[k].toNat - 128) * 128 ^ k) (l.drop (k + 1)) := by
  rw [h, List.drop_eq_getElem_cons hl, show 9 - k = (9 - (k + 1)) + 1 from by omega, decF, if_pos hc]
theorem dec_nought (hk : k < 9) (hl : k < l.length) (h0 : 0 < k) (hz : l[k].toNat = 0) (h : decF 9 0 0 l = decF (9 - k) k acc (l.drop k)) : dec most l = none := by
  unfold dec
  rw [h, List.drop_eq_getElem_cons hl, show 9 - k = (9 - (k + 1)) + 1 from by omega, decF, if_neg (by omega), if_pos ⟨h0, hz⟩]
theorem decF_one (hk : k < 9) (hl : k < l.length) (hc : l[k].toNat < 128) (h0 : ¬ (0 < k ∧ l[k].toNat = 0)) (h : decF 9 0 0 l = decF (9 - k) k acc (l.drop k)) :
    decF 9 0 0 l = some (acc + l[k].toNat * 128 ^ k, l.drop (k + 1)) := by
  rw [h, List.drop_eq_getElem_cons hl, show 9 - k = (9 - (k + 1)) + 1 from by omega, decF, if_neg (by omega), if_neg h0]
theorem dec_big (hk : k < 9) (hl : k < l.length) (hc : l[k].toNat < 128) (h0 : ¬ (0 < k ∧ l[k].toNat = 0)) (hm : most < acc + l[k].toNat * 128 ^ k) (h : decF 9 0 0 l = decF (9 - k) k acc (l.drop k)) : dec most l = none := by
  unfold dec
  rw [decF_one hk hl hc h0 h]
  simp only [if_neg (Nat.not_le.2 hm)]
theorem dec_good (hk : k < 9) (hl : k < l.length) (hc : l[k].toNat < 128) (h0 : ¬ (0 < k ∧ l[k].toNat = 0)) (hm : acc + l[k].toNat * 128 ^ k ≤ most) (h : decF 9 0 0 l = decF (9 - k) k acc (l.drop k)) :
    dec most l = some (acc + l[k].toNat * 128 ^ k, l.drop (k + 1)) := by
  unfold dec
  rw [decF_one hk hl hc h0 h]
  simp only [if_pos hm]
theorem dec_end (hk : k = l.length ∨ k = 9) (h : decF 9 0 0 l = decF (9 - k) k acc (l.drop k)) : dec most l = none := by
  unfold dec
  rw [h]
  rcases hk with rfl | rfl
  · rw [List.drop_length]
    cases 9 - l.length <;> rfl
  · rfl
end
end Go.Bx
