/- Plain law of numbers in sixteen pieces of sixteen bits. No program, no condition. -/
import Derived.Test.YtfobnajgnnccmaaSxS2
namespace Go.Bx
def car : Int → List Int → List Int
  | _, [] => []
  | c, x :: l => (c + x) % 65536 :: car ((c + x) / 65536) l
def carOut : Int → List Int → Int
  | c, [] => c
  | c, x :: l => carOut ((c + x) / 65536) l
def carL (l : List Int) : List Int :=
  match car 0 l with
  | [] => []
  | x :: t => (x + 38 * carOut 0 l) :: t
def addRowF (i k : Nat) (a b t : List Int) : List Int := (List.range 31).map fun p => t.getD p 0 + (if i ≤ p ∧ p < i + k then a.getD i 0 * b.getD (p - i) 0 else 0)
def timN (a b t : List Int) : Nat → List Int
  | 0 => t
  | n + 1 => addRowF n 16 a b (timN a b t n)
def foldF (t : List Int) : List Int := (List.range 16).map fun i => if i < 15 then t.getD i 0 + 38 * t.getD (i + 16) 0 else t.getD 15 0
def plusF (a b : List Int) : List Int := carL (carL (List.zipWith (· + ·) a b))
def minF (a b : List Int) : List Int := carL (carL (List.zipWith (· - ·) a b))
def mulF (a b : List Int) : List Int := carL (carL (foldF (timN a b (List.replicate 31 0) 16)))
def oneF : List Int := [1, 0, 0, 0, 0, 0, 0, 0, 0, 0, 0, 0, 0, 0, 0, 0]
def powF (a : List Int) (n : Int) : Nat → List Int
  | 0 => oneF
  | k + 1 => if n / 2 ^ (255 - k) % 2 = 1 then mulF (mulF (powF a n k) (powF a n k)) a else mulF (powF a n k) (powF a n k)
def Bd (m : Int) (l : List Int) : Prop := ∀ z ∈ l, -m ≤ z ∧ z ≤ m
def Dig16 (l : List Int) : Prop := ∀ z ∈ l, 0 ≤ z ∧ z < 65536
/-- A number that is carried: the lowest piece may be a bit out. -/
structure FF (l : List Int) : Prop where
  len : l.length = 16
  head : -38 ≤ l.getD 0 0 ∧ l.getD 0 0 ≤ 65573
  tail : Dig16 (l.drop 1)
/-- The loops' ends, and what they ask. -/
def timL (s : List Int) : List Int := 16 :: ((s.drop 1).take 48 ++ timN ((s.drop 1).take 16) ((s.drop 17).take 16) ((s.drop 49).take 31) 16)
def rowFL (s : List Int) : List Int := s.getD 0 0 :: 16 :: ((s.drop 2).take 48 ++ addRowF (s.getD 0 0).toNat 16 ((s.drop 2).take 16) ((s.drop 18).take 16) ((s.drop 50).take 31))
def powL (s : List Int) : List Int := -1 :: ((s.drop 1).take 48 ++ powF ((s.drop 1).take 16) (dv 256 ((s.drop 17).take 32)) 256)
def timP (s : List Int) : Prop := s.getD 0 0 = 0 ∧ (s.drop 49).take 31 = List.replicate 31 0 ∧ Bd 65573 ((s.drop 1).take 16) ∧ Bd 65573 ((s.drop 17).take 16)
def rowFP (s : List Int) : Prop := 0 ≤ s.getD 0 0 ∧ s.getD 0 0 < 16 ∧ s.getD 1 0 = 0 ∧ Bd 65573 ((s.drop 2).take 16) ∧ Bd 65573 ((s.drop 18).take 16) ∧ Bd 1099511627776 ((s.drop 50).take 31)
def powP' (s : List Int) : Prop := s.getD 0 0 = 255 ∧ (s.drop 49).take 16 = oneF ∧ FF ((s.drop 1).take 16)
-- carrying
theorem car_len : ∀ (c : Int) (l : List Int), (car c l).length = l.length
  | _, [] => rfl
  | c, x :: l => by simp only [car, List.length_cons, car_len]
theorem car_dv : ∀ (c : Int) (l : List Int), dv 65536 (car c l) + 65536 ^ l.length * carOut c l = dv 65536 l + c
  | c, [] => by simp [car, carOut, dv]
  | c, x :: l => by
    have ih := car_dv ((c + x) / 65536) l
    simp only [car, carOut, dv, List.length_cons, Int.pow_succ]
    have e2 : 65536 ^ l.length * 65536 * carOut ((c + x) / 65536) l = 65536 * (65536 ^ l.length * carOut ((c + x) / 65536) l) := by grind
    rw [e2]
    generalize dv 65536 (car ((c + x) / 65536) l) = u at *
    generalize 65536 ^ l.length * carOut ((c + x) / 65536) l = w at *
    omega
theorem car_dig : ∀ (c : Int) (l : List Int), Dig16 (car c l)
  | _, [] => fun z hz => by cases hz
  | c, x :: l => fun z hz => by
    rcases List.mem_cons.1 hz with rfl | hz
    · omega
    · exact car_dig _ l z hz
theorem carL_cons (x : Int) (l : List Int) : carL (x :: l) = (x % 65536 + 38 * carOut 0 (x :: l)) :: car (x / 65536) l := by
  simp only [carL, car, Int.zero_add]
theorem carL_len {l : List Int} (h : l.length = 16) : (carL l).length = 16 := by
  match l, h with
  | x :: l, h => rw [carL_cons]; simpa [car_len] using h
theorem carL_dv {l : List Int} (h : l.length = 16) : dv 65536 (carL l) = dv 65536 l - 65536 ^ 16 * carOut 0 l + 38 * carOut 0 l := by
  match l, h with
  | x :: l, h =>
    have h1 := car_dv 0 (x :: l)
    rw [h] at h1
    rw [carL_cons]
    simp only [car, Int.zero_add] at h1
    simp only [dv] at h1 ⊢
    omega
theorem carOut_bd {K M : Int} (hK : M + K ≤ 65536 * K) (hK0 : 0 ≤ K) : ∀ {c : Int} {l : List Int}, -K ≤ c → c ≤ K → Bd M l → -K ≤ carOut c l ∧ carOut c l ≤ K
  | c, [], h0, h1, _ => ⟨h0, h1⟩
  | c, x :: l, h0, h1, hl => by
    have hx := hl x (by simp)
    refine carOut_bd hK hK0 (c := (c + x) / 65536) ?_ ?_ fun z hz => hl z (by simp [hz])
    · omega
    · omega
theorem carOut_one : ∀ {c : Int} {l : List Int}, -1 ≤ c → c ≤ 1 → Dig16 l → -1 ≤ carOut c l ∧ carOut c l ≤ 1
  | c, [], h0, h1, _ => ⟨h0, h1⟩
  | c, x :: l, h0, h1, hl => by
    have hx := hl x (by simp)
    refine carOut_one (c := (c + x) / 65536) ?_ ?_ fun z hz => hl z (by simp [hz])
    · omega
    · omega
theorem ff_cons {x : Int} {l : List Int} (hl : l.length = 15) (h0 : -38 ≤ x) (h1 : x ≤ 65573) (hd : Dig16 l) : FF (x :: l) := ⟨by simp [hl], ⟨h0, h1⟩, hd⟩
/-- Carried once: pieces below 2^33. -/
theorem carL_one {l : List Int} (h : l.length = 16) (hb : Bd 4398046511104 l) : ∃ x t, carL l = x :: t ∧ t.length = 15 ∧ Dig16 t ∧ -8589934592 ≤ x ∧ x ≤ 8589934592 := by
  match l, h with
  | x :: l, h =>
    have ho := carOut_bd (K := 134217728) (M := 4398046511104) (by decide) (by decide) (c := 0) (l := x :: l) (by decide) (by decide) hb
    refine ⟨_, _, carL_cons x l, by rw [car_len]; simpa using h, car_dig _ _, ?_, ?_⟩ <;> omega
/-- Carried twice it is carried. -/
theorem carL_two {l : List Int} (h : l.length = 16) (hb : Bd 4398046511104 l) : FF (carL (carL l)) := by
  obtain ⟨x, t, e, ht, hd, h0, h1⟩ := carL_one h hb
  rw [e]
  match t, ht, hd with
  | y :: z :: t, ht, hd =>
    have hy := hd y (by simp)
    have hz := hd z (by simp)
    rw [carL_cons]
    have ho : -1 ≤ carOut 0 (x :: y :: z :: t) ∧ carOut 0 (x :: y :: z :: t) ≤ 1 := by
      simp only [carOut, Int.zero_add]
      exact carOut_one (by omega) (by omega) fun w hw => hd w (by simp [hw])
    exact ff_cons (by rw [car_len]; simpa using ht) (by omega) (by omega) (car_dig _ _)
theorem dig16_dv : ∀ {l : List Int}, Dig16 l → 0 ≤ dv 65536 l ∧ dv 65536 l < 65536 ^ l.length
  | [], _ => ⟨by simp [dv], by simp [dv]⟩
  | x :: l, h => by
    have ih := dig16_dv (l := l) fun z hz => h z (by simp [hz])
    have hx := h x (by simp)
    simp only [dv, List.length_cons, Int.pow_succ]
    generalize (65536 : Int) ^ l.length = w at *
    omega
/-- Carried again all pieces are in bounds. -/
theorem carL_dig {l : List Int} (h : FF l) : Dig16 (carL l) := by
  obtain ⟨hl, hh, ht⟩ := h
  match l, hl with
  | x :: t, hl =>
    have ht : Dig16 t := ht
    have hx : -38 ≤ x ∧ x ≤ 65573 := hh
    have ho : -1 ≤ carOut 0 (x :: t) ∧ carOut 0 (x :: t) ≤ 1 := by
      simp only [carOut, Int.zero_add]
      exact carOut_one (by omega) (by omega) ht
    have hdv := car_dv 0 (x :: t)
    rw [hl] at hdv
    simp only [car, Int.zero_add] at hdv
    simp only [dv] at hdv
    have b1 := dig16_dv (car_dig (x / 65536) t)
    have b2 := dig16_dv ht
    rw [car_len] at b1
    have ht15 : t.length = 15 := by simpa using hl
    rw [ht15] at b1 b2
    have p16 : (65536 : Int) ^ 16 = 65536 * 65536 ^ 15 := by decide
    rw [p16] at hdv
    generalize (65536 : Int) ^ 15 = w at *
    generalize dv 65536 (car (x / 65536) t) = u at *
    generalize dv 65536 t = v at *
    rw [carL_cons]
    generalize carOut 0 (x :: t) = o at *
    intro z hz
    rcases List.mem_cons.1 hz with rfl | hz
    · have : o = -1 ∨ o = 0 ∨ o = 1 := by omega
      rcases this with rfl | rfl | rfl <;> omega
    · exact car_dig _ _ z hz
theorem carOut_dig : ∀ {l : List Int}, Dig16 l → carOut 0 l = 0 ∧ car 0 l = l
  | [], _ => ⟨rfl, rfl⟩
  | x :: l, h => by
    have hx := h x (by simp)
    have ih := carOut_dig (l := l) fun z hz => h z (by simp [hz])
    have e : (0 + x) / 65536 = 0 := by omega
    have e2 : (0 + x) % 65536 = x := by omega
    simp only [carOut, car, e, e2]
    exact ⟨ih.1, by rw [ih.2]⟩
theorem carL_same {l : List Int} (h : Dig16 l) : carL l = l := by
  obtain ⟨h1, h2⟩ := carOut_dig h
  unfold carL
  rw [h2, h1]
  cases l with
  | nil => rfl
  | cons x t => simp
theorem ff_bd {l : List Int} (h : FF l) : Bd 65573 l := by
  obtain ⟨hl, hh, ht⟩ := h
  match l, hl with
  | x :: t, hl =>
    have ht : Dig16 t := ht
    have hx : -38 ≤ x ∧ x ≤ 65573 := hh
    intro z hz
    rcases List.mem_cons.1 hz with rfl | hz
    · omega
    · have := ht z hz; omega
theorem dig_ff {l : List Int} (hl : l.length = 16) (h : Dig16 l) : FF l := by
  match l, hl with
  | x :: t, hl =>
    have hx := h x (by simp)
    exact ⟨hl, ⟨by show -38 ≤ x; omega, by show x ≤ 65573; omega⟩, fun z hz => h z (by simp at hz; simp [hz])⟩
theorem bd_get {m : Int} {l : List Int} (h : Bd m l) (hm : 0 ≤ m) (i : Nat) : -m ≤ l.getD i 0 ∧ l.getD i 0 ≤ m := by
  by_cases hi : i < l.length
  · exact h _ (getD_mem hi)
  · rw [List.getD_eq_getElem?_getD, List.getElem?_eq_none (by omega)]; simp; omega
theorem bd_of {m : Int} {l : List Int} (h : ∀ i, i < l.length → -m ≤ l.getD i 0 ∧ l.getD i 0 ≤ m) : Bd m l := fun z hz => by
  obtain ⟨p, hp, rfl⟩ := List.mem_iff_getElem.1 hz
  have := h p hp
  simpa [List.getD_eq_getElem?_getD, hp] using this
theorem getD_eq {l m : List Int} (hl : l.length = m.length) (h : ∀ p, p < l.length → l.getD p 0 = m.getD p 0) : l = m := by
  apply List.ext_getElem hl
  intro p h1 h2
  have := h p h1
  simpa [List.getD_eq_getElem?_getD, h1, h2] using this
-- sums, differences
theorem zip_dv {f : Int → Int → Int} {s : Int} (hf : ∀ x y, f x y = x + s * y) : ∀ {a b : List Int}, a.length = b.length → dv 65536 (List.zipWith f a b) = dv 65536 a + s * dv 65536 b
  | [], [], _ => by simp [dv]
  | x :: a, y :: b, h => by
    have ih := zip_dv hf (a := a) (b := b) (by simpa using h)
    simp only [List.zipWith_cons_cons, dv, ih, hf]
    grind
  | [], _ :: _, h => by simp at h
  | _ :: _, [], h => by simp at h
theorem zip_bd {f : Int → Int → Int} {m n : Int} (hf : ∀ x y, (-m ≤ x ∧ x ≤ m) → (-m ≤ y ∧ y ≤ m) → -n ≤ f x y ∧ f x y ≤ n) : ∀ {a b : List Int}, Bd m a → Bd m b → Bd n (List.zipWith f a b)
  | x :: a, y :: b, ha, hb => fun z hz => by
    rcases List.mem_cons.1 hz with rfl | hz
    · exact hf _ _ (ha x (by simp)) (hb y (by simp))
    · exact zip_bd hf (fun w hw => ha w (by simp [hw])) (fun w hw => hb w (by simp [hw])) z hz
  | [], _, _, _ => fun z hz => by simp at hz
  | _ :: _, [], _, _ => fun z hz => by simp at hz
-- products
theorem addRowF_len (i k : Nat) (a b t : List Int) : (addRowF i k a b t).length = 31 := by simp [addRowF]
theorem addRowF_get {i k p : Nat} {a b t : List Int} (h : p < 31) : (addRowF i k a b t).getD p 0 = t.getD p 0 + (if i ≤ p ∧ p < i + k then a.getD i 0 * b.getD (p - i) 0 else 0) := by
  simp only [addRowF, List.getD_eq_getElem?_getD, List.getElem?_map]
  rw [List.getElem?_range h]; rfl
theorem addRowF_zero {i : Nat} {a b t : List Int} (hl : t.length = 31) : addRowF i 0 a b t = t := by
  refine getD_eq (by rw [addRowF_len, hl]) fun p hp => ?_
  rw [addRowF_len] at hp
  rw [addRowF_get hp, if_neg (by omega), Int.add_zero]
theorem addRowF_succ {i k : Nat} {a b t : List Int} (h : i + k < 31) : (addRowF i k a b t).set (i + k) ((addRowF i k a b t).getD (i + k) 0 + a.getD i 0 * b.getD k 0) = addRowF i (k + 1) a b t := by
  refine getD_eq (by simp [addRowF]) fun p hp => ?_
  rw [List.length_set, addRowF_len] at hp
  rw [getD_set (by rw [addRowF_len]; exact h), addRowF_get hp, addRowF_get h]
  by_cases e : p = i + k
  · subst e
    rw [if_pos rfl, if_neg (by omega), Int.add_zero, addRowF_get h, if_pos (by omega), Nat.add_sub_cancel_left]
  · rw [if_neg e, addRowF_get hp]
    by_cases q : i ≤ p ∧ p < i + k
    · rw [if_pos q, if_pos (by omega)]
    · rw [if_neg q, if_neg (by omega)]
theorem addRowF_dv {i : Nat} {a b t : List Int} (ht : t.length = 31) : ∀ {k : Nat}, k ≤ b.length → i + k ≤ 31 → dv 65536 (addRowF i k a b t) = dv 65536 t + 65536 ^ i * (a.getD i 0 * dv 65536 (b.take k))
  | 0, _, _ => by rw [addRowF_zero ht]; simp [dv]
  | k + 1, hb, hk => by
    have ih := addRowF_dv (i := i) (a := a) (b := b) ht (k := k) (by omega) (by omega)
    rw [← addRowF_succ (by omega), dv_set (by rw [addRowF_len]; omega), ih, dv_take (by omega), Int.pow_add]
    grind
theorem mul_bd {x y : Int} (hx : -65573 ≤ x ∧ x ≤ 65573) (hy : -65573 ≤ y ∧ y ≤ 65573) : -4299818329 ≤ x * y ∧ x * y ≤ 4299818329 := by
  have hxn : x.natAbs ≤ 65573 := by omega
  have hyn : y.natAbs ≤ 65573 := by omega
  have h := Nat.mul_le_mul hxn hyn
  rw [← Int.natAbs_mul] at h
  omega
theorem addRowF_bd {i k : Nat} {a b t : List Int} {m : Int} (hm : 0 ≤ m) (ha : Bd 65573 a) (hb : Bd 65573 b) (ht : Bd m t) : Bd (m + 4299818329) (addRowF i k a b t) := bd_of fun p hp => by
  rw [addRowF_len] at hp
  rw [addRowF_get hp]
  have h1 := bd_get ht hm p
  split
  · have h2 := mul_bd (bd_get ha (by decide) i) (bd_get hb (by decide) (p - i))
    omega
  · omega
theorem timN_ok {a b : List Int} (la : a.length = 16) (lb : b.length = 16) (ha : Bd 65573 a) (hb : Bd 65573 b) : ∀ n, n ≤ 16 → (timN a b (List.replicate 31 0) n).length = 31 ∧ Bd (n * 4299818329) (timN a b (List.replicate 31 0) n) ∧ dv 65536 (timN a b (List.replicate 31 0) n) = dv 65536 (a.take n) * dv 65536 b
  | 0, _ => ⟨by simp [timN], fun z hz => by
      have := List.eq_of_mem_replicate (show z ∈ List.replicate 31 (0 : Int) from hz)
      subst this; simp, by
      have : dv 65536 (List.replicate 31 0) = 0 := by decide +kernel
      show dv 65536 (List.replicate 31 0) = dv 65536 [] * _
      rw [this]; simp [dv]⟩
  | n + 1, hn => by
    obtain ⟨i1, i2, i3⟩ := timN_ok la lb ha hb n (by omega)
    refine ⟨by rw [timN, addRowF_len], ?_, ?_⟩
    · have := addRowF_bd (i := n) (k := 16) (m := n * 4299818329) (by omega) ha hb i2
      intro z hz
      have := this z hz
      push_cast; omega
    · rw [timN, addRowF_dv i1 (by omega) (by omega), i3, dv_take (l := a) (i := n) (by omega), List.take_of_length_le (show b.length ≤ 16 by omega)]
      grind
theorem foldF_len (t : List Int) : (foldF t).length = 16 := by simp [foldF]
theorem foldF_dv {t : List Int} (ht : t.length = 31) : dv 65536 t = dv 65536 (foldF t) + (65536 ^ 16 - 38) * dv 65536 (t.drop 16) := by
  match t, ht with
  | [t0, t1, t2, t3, t4, t5, t6, t7, t8, t9, t10, t11, t12, t13, t14, t15, u0, u1, u2, u3, u4, u5, u6, u7, u8, u9, u10, u11, u12, u13, u14], _ =>
    show dv 65536 [t0, t1, t2, t3, t4, t5, t6, t7, t8, t9, t10, t11, t12, t13, t14, t15, u0, u1, u2, u3, u4, u5, u6, u7, u8, u9, u10, u11, u12, u13, u14] = dv 65536 [t0 + 38 * u0, t1 + 38 * u1, t2 + 38 * u2, t3 + 38 * u3, t4 + 38 * u4, t5 + 38 * u5, t6 + 38 * u6, t7 + 38 * u7, t8 + 38 * u8, t9 + 38 * u9, t10 + 38 * u10, t11 + 38 * u11, t12 + 38 * u12, t13 + 38 * u13, t14 + 38 * u14, t15] + _ * dv 65536 [u0, u1, u2, u3, u4, u5, u6, u7, u8, u9, u10, u11, u12, u13, u14]
    simp only [dv, Int.reducePow, Int.reduceSub]
    omega
theorem foldF_bd {m : Int} {t : List Int} (hm : 0 ≤ m) (h : Bd m t) : Bd (39 * m) (foldF t) := bd_of fun p hp => by
  rw [foldF_len] at hp
  have e : (foldF t).getD p 0 = if p < 15 then t.getD p 0 + 38 * t.getD (p + 16) 0 else t.getD 15 0 := by
    simp only [foldF, List.getD_eq_getElem?_getD, List.getElem?_map]
    rw [List.getElem?_range hp]; rfl
  rw [e]
  have h1 := bd_get h hm p
  have h2 := bd_get h hm (p + 16)
  have h3 := bd_get h hm 15
  split <;> omega
-- bytes
def pairs16 : List Int → List Int
  | x :: y :: l => (x + 256 * y) :: pairs16 l
  | _ => []
theorem pairs16_dv : ∀ {l : List Int} (n : Nat), l.length = 2 * n → dv 65536 (pairs16 l) = dv 256 l
  | [], _, _ => rfl
  | [x], n, h => by simp at h; omega
  | x :: y :: l, n, h => by
    have ih := pairs16_dv (l := l) (n - 1) (by simp at h; omega)
    simp only [pairs16, dv, ih]; omega
theorem pairs16_dig : ∀ {l : List Int}, Dig 256 l → Dig16 (pairs16 l)
  | [], _ => fun z hz => by cases hz
  | [x], _ => fun z hz => by cases hz
  | x :: y :: l, h => fun z hz => by
    have hx := h.head
    have hy := h.tail.head
    rcases List.mem_cons.1 hz with rfl | hz
    · omega
    · exact pairs16_dig h.tail.tail z hz
def bytes16 : List Int → List Int
  | [] => []
  | x :: l => x % 256 :: x / 256 % 256 :: bytes16 l
theorem bytes16_dv : ∀ {l : List Int}, Dig16 l → dv 256 (bytes16 l) = dv 65536 l
  | [], _ => rfl
  | x :: l, h => by
    have hx := h x (by simp)
    have ih := bytes16_dv (l := l) fun z hz => h z (by simp [hz])
    simp only [bytes16, dv, ih]; omega
theorem bytes16_dig : ∀ (l : List Int), Dig 256 (bytes16 l)
  | [] => ⟨fun z hz => by cases hz⟩
  | x :: l => Dig.cons (by omega) (by omega) (Dig.cons (by omega) (by omega) (bytes16_dig l))
theorem bytes16_len : ∀ (l : List Int), (bytes16 l).length = 2 * l.length
  | [] => rfl
  | x :: l => by simp only [bytes16, List.length_cons, bytes16_len]; omega
-- taking away p
def subF : Int → List Int → List Int → List Int
  | b, [x], [p] => [x - p - b]
  | b, x :: l, p :: q => (x - p - b) % 65536 :: subF (-((x - p - b) / 65536)) l q
  | _, _, _ => []
theorem subF_dv : ∀ (b : Int) (l q : List Int), l.length = q.length → l ≠ [] → dv 65536 (subF b l q) = dv 65536 l - dv 65536 q - b
  | b, [x], [p], _, _ => by simp [subF, dv]
  | b, x :: y :: l, p :: r :: q, h, _ => by
    have ih := subF_dv (-((x - p - b) / 65536)) (y :: l) (r :: q) (by simpa using h) (by simp)
    simp only [subF]
    rw [show dv 65536 ((x - p - b) % 65536 :: subF (-((x - p - b) / 65536)) (y :: l) (r :: q)) = (x - p - b) % 65536 + 65536 * dv 65536 (subF (-((x - p - b) / 65536)) (y :: l) (r :: q)) from rfl, ih]
    rw [show dv 65536 (x :: y :: l) = x + 65536 * dv 65536 (y :: l) from rfl, show dv 65536 (p :: r :: q) = p + 65536 * dv 65536 (r :: q) from rfl]
    omega
  | _, [], _, _, h => absurd rfl h
  | _, _ :: _, [], h, _ => by simp at h
  | _, [_], _ :: _ :: _, h, _ => by simp at h
  | _, _ :: _ :: _, [_], h, _ => by simp at h
theorem subF_cons {b x p raw m b' : Int} {y r : Int} {l q ms : List Int} (hr : raw = x - p - b) (hm : m = raw % 65536) (hb : b' = -(raw / 65536)) (h : ms = subF b' (y :: l) (r :: q)) : m :: ms = subF b (x :: y :: l) (p :: r :: q) := by
  rw [hm, h, hb, hr]; rfl
def pF : List Int := [65517, 65535, 65535, 65535, 65535, 65535, 65535, 65535, 65535, 65535, 65535, 65535, 65535, 65535, 65535, 32767]
end Go.Bx
