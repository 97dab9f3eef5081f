/- Plain law of primes: Fermat, and primes told by their certificates. No program, no condition. -/
import Derived.Test.YtfobnajgnnccmaaPlainN
namespace Go.Bx
structure Pr (p : Nat) : Prop where
  two : 2 ≤ p
  dvd : ∀ d, d ∣ p → d = 1 ∨ d = p
theorem Pr.coprime {p k : Nat} (hp : Pr p) (h : ¬ p ∣ k) : Nat.gcd p k = 1 := by
  rcases hp.dvd _ (Nat.gcd_dvd_left p k) with e | e
  · exact e
  · exact absurd (e ▸ Nat.gcd_dvd_right p k) h
theorem Pr.euclid {p a b : Nat} (hp : Pr p) (h : p ∣ a * b) : p ∣ a ∨ p ∣ b := by
  by_cases ha : p ∣ a
  · exact .inl ha
  · exact .inr (Nat.Coprime.dvd_of_dvd_mul_left (hp.coprime ha) h)
def ch : Nat → Nat → Nat
  | _, 0 => 1
  | 0, _ + 1 => 0
  | n + 1, k + 1 => ch n k + ch n (k + 1)
theorem ch_zero (n : Nat) : ch n 0 = 1 := by cases n <;> rfl
theorem ch_gt : ∀ n k, n < k → ch n k = 0
  | _, 0, h => by omega
  | 0, _ + 1, _ => rfl
  | n + 1, k + 1, h => by rw [ch, ch_gt n k (by omega), ch_gt n (k + 1) (by omega)]
theorem ch_self : ∀ n, ch n n = 1
  | 0 => rfl
  | n + 1 => by rw [ch, ch_self n, ch_gt n (n + 1) (by omega)]
theorem ch_mul : ∀ n k, (k + 1) * ch (n + 1) (k + 1) = (n + 1) * ch n k
  | 0, 0 => rfl
  | 0, k + 1 => by simp [ch]
  | n + 1, 0 => by
    have ih := ch_mul n 0
    rw [ch_zero] at ih ⊢
    rw [ch, ch_zero]; omega
  | n + 1, k + 1 => by
    have i1 := ch_mul n k
    have i2 := ch_mul n (k + 1)
    rw [ch]
    have e : ch (n + 1) (k + 1) = ch n k + ch n (k + 1) := rfl
    have : (k + 1 + 1) * (ch (n + 1) (k + 1) + ch (n + 1) (k + 1 + 1)) = ch (n + 1) (k + 1) + (k + 1) * ch (n + 1) (k + 1) + (k + 1 + 1) * ch (n + 1) (k + 1 + 1) := by grind
    rw [this, i1, i2]
    rw [e]; grind
theorem Pr.chd {p k : Nat} (hp : Pr p) (h0 : 0 < k) (h1 : k < p) : p ∣ ch p k := by
  obtain ⟨j, rfl⟩ : ∃ j, k = j + 1 := ⟨k - 1, by omega⟩
  obtain ⟨m, rfl⟩ : ∃ m, p = m + 1 := ⟨p - 1, by omega⟩
  have h := ch_mul m j
  rcases hp.euclid (a := j + 1) (b := ch (m + 1) (j + 1)) (by rw [h]; exact Nat.dvd_mul_right _ _) with h | h
  · exact absurd (Nat.le_of_dvd (by omega) h) (by omega)
  · exact h
def sm (n a : Nat) : Nat → Nat
  | 0 => 0
  | m + 1 => sm n a m + ch n m * a ^ m
theorem sm_succ (n a : Nat) : ∀ m, sm (n + 1) a (m + 1) = a * sm n a m + sm n a (m + 1)
  | 0 => by simp [sm, ch_zero]
  | m + 1 => by
    have ih := sm_succ n a m
    have e1 : sm (n + 1) a (m + 1 + 1) = sm (n + 1) a (m + 1) + (ch n m + ch n (m + 1)) * a ^ (m + 1) := rfl
    have e2 : sm n a (m + 1 + 1) = sm n a (m + 1) + ch n (m + 1) * a ^ (m + 1) := rfl
    have e3 : sm n a (m + 1) = sm n a m + ch n m * a ^ m := rfl
    rw [e1, ih, e2, Nat.pow_succ]
    generalize sm n a (m + 1) = x at *
    subst e3
    grind
theorem pow_sm (a : Nat) : ∀ n, (a + 1) ^ n = sm n a (n + 1)
  | 0 => by simp [sm, ch]
  | n + 1 => by
    have ih := pow_sm a n
    rw [sm_succ, Nat.pow_succ, ih]
    have e2 : sm n a (n + 1 + 1) = sm n a (n + 1) + ch n (n + 1) * a ^ (n + 1) := rfl
    rw [e2, ch_gt n (n + 1) (by omega)]
    grind
theorem sm_mod {p : Nat} (hp : Pr p) (a : Nat) : ∀ m, 0 < m → m ≤ p → sm p a m % p = 1 % p
  | 0, h, _ => by omega
  | 1, _, _ => by simp [sm, ch_zero]
  | m + 2, _, h => by
    have ih := sm_mod hp a (m + 1) (by omega) (by omega)
    have e : sm p a (m + 2) = sm p a (m + 1) + ch p (m + 1) * a ^ (m + 1) := rfl
    obtain ⟨c, hc⟩ := hp.chd (k := m + 1) (by omega) (by omega)
    rw [e, hc, Nat.mul_assoc, Nat.add_mul_mod_self_left, ih]
/-- Fermat. -/
theorem Pr.fermat {p : Nat} (hp : Pr p) : ∀ a : Nat, a ^ p % p = a % p
  | 0 => by rw [Nat.zero_pow (by have := hp.two; omega)]
  | a + 1 => by
    have ih := hp.fermat a
    have h2 := hp.two
    have e : sm p a (p + 1) = sm p a p + ch p p * a ^ p := rfl
    rw [pow_sm, e, ch_self, Nat.one_mul, Nat.add_mod, ih, sm_mod hp a p (by omega) (Nat.le_refl _), ← Nat.add_mod, Nat.add_comm]
theorem Pr.fermat1 {p a : Nat} (hp : Pr p) (h : ¬ p ∣ a) : a ^ (p - 1) % p = 1 := by
  have h2 := hp.two
  have ha : 0 < a := by
    rcases Nat.eq_zero_or_pos a with rfl | h0
    · exact absurd (Nat.dvd_zero p) h
    · exact h0
  have f := hp.fermat a
  have e : a ^ p = a ^ (p - 1) * a := by rw [← Nat.pow_succ]; congr 1; omega
  rw [e] at f
  have hx : 0 < a ^ (p - 1) := Nat.pow_pos ha
  have d : p ∣ (a ^ (p - 1) - 1) * a := by
    have := Nat.sub_mod_eq_zero_of_mod_eq f
    rw [Nat.sub_mul, Nat.one_mul]
    exact Nat.dvd_of_mod_eq_zero this
  rcases hp.euclid d with d | d
  · obtain ⟨c, hc⟩ := d
    have : a ^ (p - 1) = 1 + p * c := by omega
    rw [this, Nat.add_mul_mod_self_left, Nat.mod_eq_of_lt (by omega)]
  · exact absurd d h
theorem one_pow_mod {b p : Nat} (h : b % p = 1) (hp : 2 ≤ p) (k : Nat) : b ^ k % p = 1 := by
  rw [Nat.pow_mod, h, Nat.one_pow, Nat.mod_eq_of_lt (by omega)]
theorem pow_gcd {b p : Nat} (hp : 2 ≤ p) : ∀ m k : Nat, b ^ m % p = 1 → b ^ k % p = 1 → b ^ Nat.gcd m k % p = 1 := by
  intro m k
  induction m, k using Nat.gcd.induction with
  | H0 k => intro _ h; rw [Nat.gcd_zero_left]; exact h
  | H1 m k hm ih =>
    intro h1 h2
    rw [Nat.gcd_rec]
    refine ih ?_ h1
    have e : b ^ k = (b ^ m) ^ (k / m) * b ^ (k % m) := by rw [← Nat.pow_mul, ← Nat.pow_add, Nat.div_add_mod]
    rw [e, Nat.mul_mod, one_pow_mod h1 hp, Nat.one_mul, Nat.mod_mod] at h2
    exact h2
theorem order_dvd {b p q : Nat} (hp : Pr p) (hq : Pr q) (h1 : b ^ q % p = 1) (h2 : b % p ≠ 1) : q ∣ p - 1 := by
  have hp2 := hp.two
  refine Classical.byContradiction fun hn => h2 ?_
  have hb : ¬ p ∣ b := fun ⟨c, hc⟩ => by
    have hq2 := hq.two
    obtain ⟨r, rfl⟩ : ∃ r, q = r + 1 := ⟨q - 1, by omega⟩
    rw [Nat.pow_succ, hc, ← Nat.mul_assoc, Nat.mul_comm _ p, Nat.mul_assoc, Nat.mul_mod_right] at h1
    omega
  have := pow_gcd hp2 q (p - 1) h1 (hp.fermat1 hb)
  rw [hq.coprime hn, Nat.pow_one] at this
  exact this
theorem exists_prime : ∀ x, 2 ≤ x → ∃ p, Pr p ∧ p ∣ x := by
  intro x
  induction x using Nat.strongRecOn with
  | ind x ih =>
    intro hx
    by_cases h : Pr x
    · exact ⟨x, h, Nat.dvd_refl x⟩
    · have : ∃ d, d ∣ x ∧ d ≠ 1 ∧ d ≠ x := by
        refine Classical.byContradiction fun hn => h ⟨hx, fun d hd => ?_⟩
        refine Classical.byContradiction fun h' => hn ⟨d, hd, fun e => h' (.inl e), fun e => h' (.inr e)⟩
      obtain ⟨d, hd, h1, h2⟩ := this
      have hle := Nat.le_of_dvd (by omega) hd
      have h0 : d ≠ 0 := fun e => by rw [e, Nat.zero_dvd] at hd; omega
      obtain ⟨p, hp, hpd⟩ := ih d (by omega) (by omega)
      exact ⟨p, hp, Nat.dvd_trans hpd hd⟩
theorem pr_of {n : Nat} (hn : 2 ≤ n) (h : ∀ p, Pr p → p ∣ n → n < p * p) : Pr n := by
  refine ⟨hn, fun d hd => ?_⟩
  refine Classical.byContradiction fun hne => ?_
  obtain ⟨e, he⟩ := hd
  have hd0 : d ≠ 0 := fun x => by rw [x, Nat.zero_mul] at he; omega
  have hd1 : d ≠ 1 := fun x => hne (.inl x)
  have he0 : e ≠ 0 := fun x => by rw [x, Nat.mul_zero] at he; omega
  have he1 : e ≠ 1 := fun x => hne (.inr (by rw [he, x, Nat.mul_one]))
  have key : ∀ x y, n = x * y → 2 ≤ x → x ≤ y → False := fun x y hxy hx hle => by
    obtain ⟨p, hp, hpx⟩ := exists_prime x hx
    have h1 := h p hp (Nat.dvd_trans hpx ⟨y, hxy⟩)
    have h2 := Nat.le_of_dvd (by omega) hpx
    have h3 : p * p ≤ x * y := Nat.mul_le_mul h2 (Nat.le_trans h2 hle)
    omega
  rcases Nat.le_total d e with hle | hle
  · exact key d e he (by omega) hle
  · exact key e d (by rw [he, Nat.mul_comm]) (by omega) hle
/-- Powers by squaring. -/
def pm (P : Nat) : Nat → Nat → Nat → Nat
  | 0, _, _ => 1
  | f + 1, b, e => if e % 2 = 1 then b * pm P f (b * b % P) (e / 2) % P else pm P f (b * b % P) (e / 2)
theorem pm_ok (P : Nat) : ∀ f b e, e < 2 ^ f → pm P f b e % P = b ^ e % P
  | 0, b, e, h => by have : e = 0 := by omega
                     subst this; rfl
  | f + 1, b, e, h => by
    have ih := pm_ok P f (b * b % P) (e / 2) (by rw [Nat.pow_succ] at h; omega)
    rw [← Nat.pow_mod] at ih
    have e2 : (b * b) ^ (e / 2) = b ^ (2 * (e / 2)) := by rw [Nat.pow_mul, Nat.pow_two]
    rw [e2] at ih
    unfold pm
    split
    · rename_i ho
      rw [Nat.mod_mod, Nat.mul_mod, ih, ← Nat.mul_mod, ← Nat.pow_succ']
      congr 2; omega
    · rw [ih]; congr 2; omega
/-- A prime's divisor of n - 1, with its witness. -/
def wit (n q a : Nat) : Bool := decide ((n - 1) % q = 0) && decide (n - 1 < 2 ^ 256) && decide (2 ≤ n) && decide (pm n 256 a (n - 1) % n = 1) && decide (Nat.gcd (pm n 256 a ((n - 1) / q) % n + n - 1) n = 1)
theorem wit_ok {n q a : Nat} (hq : Pr q) (h : wit n q a = true) : ∀ p, Pr p → p ∣ n → q ∣ p - 1 := by
  intro p hp hpn
  simp only [wit, Bool.and_eq_true, decide_eq_true_eq] at h
  obtain ⟨⟨⟨⟨h1, h2⟩, h3⟩, h4⟩, h5⟩ := h
  have hp2 := hp.two
  rw [pm_ok n 256 a (n - 1) h2] at h4
  rw [pm_ok n 256 a ((n - 1) / q) (Nat.lt_of_le_of_lt (Nat.div_le_self _ _) h2)] at h5
  have hmul : (n - 1) / q * q = n - 1 := Nat.div_mul_cancel (Nat.dvd_of_mod_eq_zero h1)
  have modp : ∀ x, x % n % p = x % p := fun x => Nat.mod_mod_of_dvd x hpn
  refine order_dvd (b := a ^ ((n - 1) / q)) hp hq ?_ fun hb => ?_
  · rw [← Nat.pow_mul, hmul, ← modp, h4, Nat.mod_eq_of_lt (by omega)]
  · have d1 : p ∣ a ^ ((n - 1) / q) % n + n - 1 := by
      obtain ⟨c, hc⟩ := hpn
      have hx : (a ^ ((n - 1) / q) % n) % p = 1 := by rw [modp]; exact hb
      have hdm := Nat.mod_add_div (a ^ ((n - 1) / q) % n) p
      rw [hx] at hdm
      refine ⟨(a ^ ((n - 1) / q) % n) / p + c, ?_⟩
      rw [Nat.mul_add, ← hc]; omega
    have d2 := Nat.dvd_gcd d1 hpn
    rw [h5] at d2
    have := Nat.le_of_dvd (by omega) d2
    omega
theorem pock1 {n q a : Nat} (hq : Pr q) (h : wit n q a = true) (hn : 2 ≤ n) (hs : n < q * q) : Pr n := by
  refine pr_of hn fun p hp hpn => ?_
  have hd := wit_ok hq h p hp hpn
  have hp2 := hp.two
  have hle := Nat.le_of_dvd (by omega) hd
  have : q * q ≤ p * p := Nat.mul_le_mul (by omega) (by omega)
  omega
theorem pock2 {n q r a b : Nat} (hq : Pr q) (hr : Pr r) (hqr : q ≠ r) (h1 : wit n q a = true) (h2 : wit n r b = true) (hn : 2 ≤ n) (hs : n < (q * r) * (q * r)) : Pr n := by
  refine pr_of hn fun p hp hpn => ?_
  have d1 := wit_ok hq h1 p hp hpn
  have d2 := wit_ok hr h2 p hp hpn
  have hp2 := hp.two
  have hco : Nat.Coprime q r := hq.coprime fun h => by
    rcases hr.dvd q h with e | e
    · have := hq.two; omega
    · exact hqr e
  have hle := Nat.le_of_dvd (by omega) (Nat.Coprime.mul_dvd_of_dvd_of_dvd hco d1 d2)
  have : (q * r) * (q * r) ≤ p * p := Nat.mul_le_mul (by omega) (by omega)
  omega
def tr (n : Nat) : Nat → Bool
  | 0 => true
  | k + 1 => !Nat.beq (n % (k + 2)) 0 && tr n k
theorem tr_ok {n : Nat} : ∀ {k : Nat}, tr n k = true → ∀ d, 2 ≤ d → d < k + 2 → ¬ d ∣ n
  | 0, _, d, h1, h2 => by omega
  | k + 1, h, d, h1, h2 => by
    simp only [tr, Bool.and_eq_true, Bool.not_eq_true'] at h
    by_cases e : d = k + 2
    · subst e
      intro hd
      rw [Nat.mod_eq_zero_of_dvd hd] at h
      cases h.1
    · exact tr_ok h.2 d h1 (by omega)
theorem pr_small {n k : Nat} (hn : 2 ≤ n) (h : tr n k = true) (hs : n < (k + 2) * (k + 2)) : Pr n := by
  refine pr_of hn fun p hp hpn => ?_
  have : ¬ p < k + 2 := fun hlt => tr_ok h p hp.two hlt hpn
  have : (k + 2) * (k + 2) ≤ p * p := Nat.mul_le_mul (by omega) (by omega)
  omega
theorem p1 : Pr 569003 := pr_small (k := 753) (by decide) (by decide +kernel) (by decide)
theorem p2 : Pr 2773320623 := pock1 p1 (a := 2) (by decide +kernel) (by decide) (by decide)
theorem p3 : Pr 72106336199 := pock1 p2 (a := 2) (by decide +kernel) (by decide) (by decide)
theorem p4 : Pr 8574133 := pr_small (k := 2930) (by decide) (by decide +kernel) (by decide)
theorem p5 : Pr 127 := pr_small (k := 10) (by decide) (by decide +kernel) (by decide)
theorem p6 : Pr 1919519569386763 := pock2 p4 p5 (a := 2) (b := 2) (by decide) (by decide +kernel) (by decide +kernel) (by decide) (by decide)
theorem p7 : Pr 75445702479781427272750846543864801 := pock2 p6 p3 (a := 2) (b := 2) (by decide) (by decide +kernel) (by decide +kernel) (by decide) (by decide)
theorem p8 : Pr 430751 := pr_small (k := 660) (by decide) (by decide +kernel) (by decide)
theorem p9 : Pr 4153 := pr_small (k := 70) (by decide) (by decide +kernel) (by decide)
theorem p10 : Pr 31757755568855353 := pock2 p8 p9 (a := 2) (b := 2) (by decide) (by decide +kernel) (by decide +kernel) (by decide) (by decide)
theorem p11 : Pr 74058212732561358302231226437062788676166966415465897661863160754340907 := pock2 p7 p10 (a := 2) (b := 2) (by decide) (by decide +kernel) (by decide +kernel) (by decide) (by decide)
/-- 2^255 - 19 is a prime. -/
theorem p25519 : Pr 57896044618658097711785492504343953926634992332820282019728792003956564819949 := pock1 p11 (a := 2) (by decide +kernel) (by decide) (by decide)
end Go.Bx
