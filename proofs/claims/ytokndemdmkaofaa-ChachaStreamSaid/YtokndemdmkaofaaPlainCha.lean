/- Plain law of the quarter round, over natural numbers below 2^32. No program, no condition. -/
namespace Go.Bx
def add32 (a b : Nat) : Nat := (a + b) % 4294967296
def rot32 (k x : Nat) : Nat := x % 2 ^ (32 - k) * 2 ^ k + x / 2 ^ (32 - k)
structure Q4 where
  a : Nat
  b : Nat
  c : Nat
  d : Nat
/-- Half a quarter round. -/
def hr (k k' : Nat) (q : Q4) : Q4 :=
  let a1 := add32 q.a q.b; let d1 := rot32 k (q.d ^^^ a1); let c1 := add32 q.c d1
  ⟨a1, rot32 k' (q.b ^^^ c1), c1, d1⟩
/-- The quarter round. -/
def qr (a b c d : Nat) : Q4 := hr 8 7 (hr 16 12 ⟨a, b, c, d⟩)
def B32 (n : Nat) : Prop := n < 4294967296
theorem add32_lt (a b : Nat) : B32 (add32 a b) := Nat.mod_lt _ (by decide)
theorem xor32_lt {a b : Nat} (ha : B32 a) (hb : B32 b) : B32 (a ^^^ b) := Nat.xor_lt_two_pow (n := 32) ha hb
theorem rot16_lt {x : Nat} (h : B32 x) : B32 (rot32 16 x) := by unfold rot32 B32 at *; omega
theorem rot12_lt {x : Nat} (h : B32 x) : B32 (rot32 12 x) := by unfold rot32 B32 at *; omega
theorem rot8_lt {x : Nat} (h : B32 x) : B32 (rot32 8 x) := by unfold rot32 B32 at *; omega
theorem rot7_lt {x : Nat} (h : B32 x) : B32 (rot32 7 x) := by unfold rot32 B32 at *; omega
theorem rot16_inj {x y : Nat} (hx : B32 x) (hy : B32 y) (h : rot32 16 x = rot32 16 y) : x = y := by unfold rot32 B32 at *; omega
theorem rot12_inj {x y : Nat} (hx : B32 x) (hy : B32 y) (h : rot32 12 x = rot32 12 y) : x = y := by unfold rot32 B32 at *; omega
theorem rot8_inj {x y : Nat} (hx : B32 x) (hy : B32 y) (h : rot32 8 x = rot32 8 y) : x = y := by unfold rot32 B32 at *; omega
theorem rot7_inj {x y : Nat} (hx : B32 x) (hy : B32 y) (h : rot32 7 x = rot32 7 y) : x = y := by unfold rot32 B32 at *; omega
theorem add32_inj {x y b : Nat} (hx : B32 x) (hy : B32 y) (h : add32 x b = add32 y b) : x = y := by unfold add32 B32 at *; omega
theorem xor_inj {x y b : Nat} (h : x ^^^ b = y ^^^ b) : x = y := by
  have := congrArg (· ^^^ b) h
  simpa [Nat.xor_assoc] using this
structure Q4.ok (q : Q4) : Prop where
  a : B32 q.a
  b : B32 q.b
  c : B32 q.c
  d : B32 q.d
theorem hr_ok {k k' : Nat} (h1 : ∀ x, B32 x → B32 (rot32 k x)) (h2 : ∀ x, B32 x → B32 (rot32 k' x)) {q : Q4} (h : q.ok) : (hr k k' q).ok :=
  ⟨add32_lt _ _, h2 _ (xor32_lt h.b (add32_lt _ _)), add32_lt _ _, h1 _ (xor32_lt h.d (add32_lt _ _))⟩
theorem qr_ok {a b c d : Nat} (ha : B32 a) (hb : B32 b) (hc : B32 c) (hd : B32 d) : (qr a b c d).ok :=
  hr_ok (fun _ => rot8_lt) (fun _ => rot7_lt) (hr_ok (fun _ => rot16_lt) (fun _ => rot12_lt) ⟨ha, hb, hc, hd⟩)
theorem hr_inj {k k' : Nat} (h1 : ∀ x y, B32 x → B32 y → rot32 k x = rot32 k y → x = y) (h2 : ∀ x y, B32 x → B32 y → rot32 k' x = rot32 k' y → x = y) {p q : Q4} (hp : p.ok) (hq : q.ok) (h : hr k k' p = hr k k' q) : p = q := by
  obtain ⟨a, b, c, d⟩ := p
  obtain ⟨a', b', c', d'⟩ := q
  unfold hr at h
  simp only [Q4.mk.injEq] at h
  obtain ⟨e1, e2, e3, e4⟩ := h
  rw [← e4] at e3
  have ec := add32_inj hp.c hq.c e3
  simp only at ec
  subst ec
  rw [← e4] at e2
  have eb := xor_inj (h2 _ _ (xor32_lt hp.b (add32_lt _ _)) (xor32_lt hq.b (add32_lt _ _)) e2)
  simp only at eb
  subst eb
  have ea := add32_inj hp.a hq.a e1
  simp only at ea
  subst ea
  have ed := xor_inj (h1 _ _ (xor32_lt hp.d (add32_lt _ _)) (xor32_lt hq.d (add32_lt _ _)) e4)
  simp only at ed
  subst ed
  rfl
theorem qr_inj {a b c d a' b' c' d' : Nat} (ha : B32 a) (hb : B32 b) (hc : B32 c) (hd : B32 d) (ha' : B32 a') (hb' : B32 b') (hc' : B32 c') (hd' : B32 d')
    (h : qr a b c d = qr a' b' c' d') : a = a' ∧ b = b' ∧ c = c' ∧ d = d' := by
  have h1 := hr_inj (fun _ _ => rot8_inj) (fun _ _ => rot7_inj) (hr_ok (fun _ => rot16_lt) (fun _ => rot12_lt) ⟨ha, hb, hc, hd⟩) (hr_ok (fun _ => rot16_lt) (fun _ => rot12_lt) ⟨ha', hb', hc', hd'⟩) h
  have h2 := hr_inj (fun _ _ => rot16_inj) (fun _ _ => rot12_inj) ⟨ha, hb, hc, hd⟩ ⟨ha', hb', hc', hd'⟩ h1
  simpa using h2
end Go.Bx
