/- The plain laws of edits: what is written is read again, what is cut short is not, what is ahead. No condition. -/
import Derived.Test.YtbhflfdlkiihgaaOk4
namespace Go.Proofs.Ytbhflfdlkiihgaa
open Go.RowKit Go.Bx Go.Sx
set_option linter.unusedSimpArgs false
set_option linter.unusedVariables false
theorem num_at {x lim : Int} (r : List UInt8) (h0 : 0 ≤ x) (h1 : x ≤ lim) (h2 : lim ≤ 1099511627776) : numV lim (enc x.toNat ++ r) = x ∧ numL lim (enc x.toNat ++ r) = r ∧ numB lim (enc x.toNat ++ r) false = false := by
  have hd := dec_enc x.toNat lim.toNat r (by omega)
  rw [if_pos (by omega)] at hd
  obtain ⟨q1, q2, q3⟩ := some_num false hd
  exact ⟨by rw [q1]; omega, q2, q3⟩
theorem byt_at {lim : Int} (s r : List UInt8) (h1 : (s.length : Int) ≤ lim) (h2 : lim ≤ 1099511627776) : bytV lim (lenE s ++ r) = s ∧ bytL lim (lenE s ++ r) = r ∧ bytB lim (lenE s ++ r) false = false := by
  have e : lenE s ++ r = enc ((s.length : Int)).toNat ++ (s ++ r) := by simp only [lenE, List.append_assoc, Int.toNat_natCast]
  obtain ⟨q1, q2, q3⟩ := num_at (x := (s.length : Int)) (s ++ r) (by omega) h1 h2
  rw [e, bytV, bytL, bytB, q1, q2, q3, Int.toNat_natCast]
  refine ⟨?_, ?_, ?_⟩
  · simp [takeV]
  · simp [takeL]
  · simp [takeB]
def vecs (a : List Int) : List UInt8 := a.flatMap fun x => enc x.toNat
theorem vecs_drop {a : List Int} {k : Nat} (h : k < a.length) : vecs (a.drop k) = enc (a.getD k 0).toNat ++ vecs (a.drop (k + 1)) := by
  have e2 : a.getD k 0 = a[k] := by simp [h]
  rw [e2, vecs, List.drop_eq_getElem_cons h, List.flatMap_cons]; rfl
theorem rl_vecs {a : List Int} (r : List UInt8) (h : goodB a = true) : ∀ k, k ≤ a.length → rl (vecs a ++ r) k = vecs (a.drop k) ++ r ∧ rb (vecs a ++ r) false k = false
  | 0, _ => ⟨rfl, rfl⟩
  | k + 1, hk => by
    have hg := getD_le h k
    obtain ⟨h1, h2⟩ := rl_vecs r h k (by omega)
    rw [rl, rb, h1, h2, vecs_drop (by omega), List.append_assoc]
    obtain ⟨q1, q2, q3⟩ := num_at (x := a.getD k 0) (lim := most) (vecs (a.drop (k + 1)) ++ r) hg.1 hg.2 (by decide)
    exact ⟨q2, q3⟩
theorem get_vecs {a : List Int} (r : List UInt8) (ha : a.length = 8) (h : goodB a = true) : getV (vecs a ++ r) false = a ∧ rl (vecs a ++ r) 8 = r ∧ rb (vecs a ++ r) false 8 = false := by
  obtain ⟨h1, h2⟩ := rl_vecs r h 8 (by omega)
  refine ⟨?_, by rw [h1, List.drop_of_length_le (by omega)]; rfl, h2⟩
  rw [getV, h2, if_neg (by decide)]
  refine List.ext_getElem (by rw [getW_length, ha]) fun i hi hj => ?_
  have hg := getD_le h i
  have hi8 : i < 8 := by rw [getW_length] at hi; exact hi
  simp only [getW, List.getElem_map, List.getElem_range]
  rw [if_pos hi8, (rl_vecs r h i (by omega)).1, vecs_drop (by omega), List.append_assoc]
  rw [(num_at (x := a.getD i 0) (lim := most) (vecs (a.drop (i + 1)) ++ r) hg.1 hg.2 (by decide)).1]
  simp [hj]
theorem nameB_len {l : List UInt8} (h : nameB l = true) : l.length ≤ 40 := by
  simp only [nameB, Bool.and_eq_true, decide_eq_true_eq] at h; exact h.2
/-- What an edit that may be is like. -/
theorem good_is {d n s0 s1 s2 s3 s4 s5 s6 s7 k c f v t : Int} (h : goodE [d, n, s0, s1, s2, s3, s4, s5, s6, s7, k, c, f, v, t] = true) :
    0 ≤ d ∧ d < 8 ∧ 1 ≤ n ∧ n ≤ 1099511627776 ∧ goodB [s0, s1, s2, s3, s4, s5, s6, s7] = true ∧ [s0, s1, s2, s3, s4, s5, s6, s7].getD d.toNat 0 = n - 1 ∧ 0 ≤ t ∧ t ≤ 1099511627776 ∧ nameB (decZ c) = true ∧
      (k = 1 ∧ nameB (decZ f) = true ∧ ((decZ v).length : Int) ≤ 200 ∨ k = 2 ∧ f = 0 ∧ v = 0) := by
  simp only [goodE, Bool.and_eq_true, Bool.not_eq_true', decide_eq_true_eq, decide_eq_false_iff_not, Int.not_lt, ne_eq, Decidable.not_not] at h
  obtain ⟨⟨⟨⟨⟨⟨⟨⟨⟨h1, h2⟩, h3⟩, h4⟩, h5⟩, h6⟩, h7⟩, h8⟩, h9⟩, h10⟩ := h
  refine ⟨h1, h2, h3, h4, h5, ?_, h7, h8, h9, ?_⟩
  · rw [h6]; exact IntWalk.i64_in _ (by omega)
  · split at h10
    · rename_i e; simp only [Bool.and_eq_true, decide_eq_true_eq] at h10; exact .inl ⟨e, h10.1, h10.2⟩
    · simp only [Bool.and_eq_true, decide_eq_true_eq] at h10; exact .inr ⟨h10.1, h10.2.1, h10.2.2⟩
theorem rd_put {d n s0 s1 s2 s3 s4 s5 s6 s7 k c f v t : Int} {top : Int} (h : goodE [d, n, s0, s1, s2, s3, s4, s5, s6, s7, k, c, f, v, t] = true) (ht : 7 ≤ top) (ht2 : top ≤ 1099511627776) (hc : 0 ≤ c) (hf : 0 ≤ f) (hv : 0 ≤ v) :
    rdE (putE [d, n, s0, s1, s2, s3, s4, s5, s6, s7, k, c, f, v, t]) top = ([d, n, s0, s1, s2, s3, s4, s5, s6, s7, k, c, f, v, t], [], false) := by
  obtain ⟨h1, h2, h3, h4, h5, h6, h7, h8, h9, h10⟩ := good_is h
  have hk : 0 ≤ k ∧ k ≤ 2 := by omega
  have hcl := nameB_len h9
  have hfl : (decZ f).length ≤ 40 := by
    rcases h10 with ⟨_, e, _⟩ | ⟨_, rfl, _⟩
    · exact nameB_len e
    · rw [decZ_zero]; decide
  have hvl : (decZ v).length ≤ 200 := by
    rcases h10 with ⟨_, _, e⟩ | ⟨_, _, rfl⟩
    · omega
    · rw [decZ_zero]; decide
  have e : putE [d, n, s0, s1, s2, s3, s4, s5, s6, s7, k, c, f, v, t] = enc d.toNat ++ (enc n.toNat ++ (vecs [s0, s1, s2, s3, s4, s5, s6, s7] ++ (enc k.toNat ++ (enc t.toNat ++ (lenE (decZ c) ++ (lenE (decZ f) ++ (lenE (decZ v) ++ []))))))) := by
    simp only [putE, h, if_true, putL, vecs, List.append_assoc, List.nil_append, List.append_nil]
  rw [e]
  obtain ⟨a1, a2, a3⟩ := num_at (x := d) (lim := top) (enc n.toNat ++ (vecs [s0, s1, s2, s3, s4, s5, s6, s7] ++ (enc k.toNat ++ (enc t.toNat ++ (lenE (decZ c) ++ (lenE (decZ f) ++ (lenE (decZ v) ++ []))))))) h1 (by omega) ht2
  obtain ⟨b1, b2, b3⟩ := num_at (x := n) (lim := 1099511627776) (vecs [s0, s1, s2, s3, s4, s5, s6, s7] ++ (enc k.toNat ++ (enc t.toNat ++ (lenE (decZ c) ++ (lenE (decZ f) ++ (lenE (decZ v) ++ [])))))) (by omega) h4 (by decide)
  obtain ⟨c1, c2, c3⟩ := get_vecs (a := [s0, s1, s2, s3, s4, s5, s6, s7]) (enc k.toNat ++ (enc t.toNat ++ (lenE (decZ c) ++ (lenE (decZ f) ++ (lenE (decZ v) ++ []))))) rfl h5
  obtain ⟨d1, d2, d3⟩ := num_at (x := k) (lim := 2) (enc t.toNat ++ (lenE (decZ c) ++ (lenE (decZ f) ++ (lenE (decZ v) ++ [])))) hk.1 hk.2 (by decide)
  obtain ⟨e1, e2, e3⟩ := num_at (x := t) (lim := 1099511627776) (lenE (decZ c) ++ (lenE (decZ f) ++ (lenE (decZ v) ++ []))) h7 h8 (by decide)
  obtain ⟨f1, f2, f3⟩ := byt_at (lim := 40) (decZ c) (lenE (decZ f) ++ (lenE (decZ v) ++ [])) (by omega) (by decide)
  obtain ⟨g1, g2, g3⟩ := byt_at (lim := 40) (decZ f) (lenE (decZ v) ++ []) (by omega) (by decide)
  obtain ⟨i1, i2, i3⟩ := byt_at (lim := 200) (decZ v) [] (by omega) (by decide)
  simp only [rdE, a1, a2, a3, b1, b2, b3, c1, c2, c3, d1, d2, d3, e1, e2, e3, f1, f2, f3, g1, g2, g3, i1, i2, i3, codZ_decZ hc, codZ_decZ hf, codZ_decZ hv, List.cons_append, List.nil_append]
theorem get_put {d n s0 s1 s2 s3 s4 s5 s6 s7 k c f v t : Int} {top : Int} (ok bad : Int) (h : goodE [d, n, s0, s1, s2, s3, s4, s5, s6, s7, k, c, f, v, t] = true) (ht : 7 ≤ top) (ht2 : top ≤ 1099511627776) (hc : 0 ≤ c) (hf : 0 ≤ f) (hv : 0 ≤ v) :
    getE top ok bad (putE [d, n, s0, s1, s2, s3, s4, s5, s6, s7, k, c, f, v, t]) = [d, n, s0, s1, s2, s3, s4, s5, s6, s7, k, c, f, v, t, ok] := by
  simp only [getE, rd_put h ht ht2 hc hf hv, h, Bool.not_false, List.isEmpty_nil, Bool.and_self, if_true, List.cons_append, List.nil_append]
/-- Unlike edits have unlike bytes. -/
theorem put_inj {d n s0 s1 s2 s3 s4 s5 s6 s7 k c f v t d' n' r0 r1 r2 r3 r4 r5 r6 r7 k' c' f' v' t' : Int} (h : goodE [d, n, s0, s1, s2, s3, s4, s5, s6, s7, k, c, f, v, t] = true) (hc : 0 ≤ c) (hf : 0 ≤ f) (hv : 0 ≤ v)
    (h' : goodE [d', n', r0, r1, r2, r3, r4, r5, r6, r7, k', c', f', v', t'] = true) (hc' : 0 ≤ c') (hf' : 0 ≤ f') (hv' : 0 ≤ v') :
    codZ (putE [d, n, s0, s1, s2, s3, s4, s5, s6, s7, k, c, f, v, t]) = codZ (putE [d', n', r0, r1, r2, r3, r4, r5, r6, r7, k', c', f', v', t']) ↔ [d, n, s0, s1, s2, s3, s4, s5, s6, s7, k, c, f, v, t] = [d', n', r0, r1, r2, r3, r4, r5, r6, r7, k', c', f', v', t'] := by
  constructor
  · intro e
    have e2 := congrArg decZ e
    rw [decZ_codZ, decZ_codZ] at e2
    have h1 := rd_put h (top := 8) (by decide) (by decide) hc hf hv
    rw [e2, rd_put h' (by decide) (by decide) hc' hf' hv'] at h1
    exact (congrArg Prod.fst h1).symm
  · intro e; rw [e]
theorem decF_more (t : List UInt8) (k : Nat) : ∀ (i v : Nat) (l : List UInt8) (x : Nat) (r : List UInt8), decF k i v l = some (x, r) → decF k i v (l ++ t) = some (x, r ++ t) := by
  induction k with
  | zero => intro i v l x r h; cases h
  | succ k ih =>
    intro i v l x r h
    cases l with
    | nil => cases h
    | cons c l =>
      rw [decF] at h
      rw [List.cons_append, decF]
      split at h
      · rename_i h1; rw [if_pos h1]; exact ih _ _ _ _ _ h
      · rename_i h1
        rw [if_neg h1]
        split at h
        · cases h
        · rename_i h2; rw [if_neg h2]; cases h; rfl
theorem num_more {lim : Int} {l : List UInt8} {b : Bool} (t : List UInt8) (h : numB lim l b = false) : b = false ∧ numV lim (l ++ t) = numV lim l ∧ numL lim (l ++ t) = numL lim l ++ t ∧ numB lim (l ++ t) b = false := by
  unfold numB at h
  cases hd : dec lim.toNat l with
  | none => rw [hd] at h; cases h
  | some p =>
    obtain ⟨x, r⟩ := p
    rw [hd] at h
    have h : b = false := h
    subst h
    have h2 : dec lim.toNat (l ++ t) = some (x, r ++ t) := by
      unfold dec at hd ⊢
      cases he : decF 9 0 0 l with
      | none => rw [he] at hd; cases hd
      | some q =>
        obtain ⟨y, s⟩ := q
        rw [he] at hd
        rw [decF_more t _ _ _ _ _ _ he]
        by_cases hm : y ≤ lim.toNat
        · simp only [if_pos hm] at hd ⊢; cases hd; rfl
        · simp only [if_neg hm] at hd; cases hd
    obtain ⟨p1, p2, p3⟩ := some_num false hd
    obtain ⟨q1, q2, q3⟩ := some_num false h2
    exact ⟨rfl, by rw [p1, q1], by rw [p2, q2], q3⟩
theorem byt_more {lim : Int} {l : List UInt8} {b : Bool} (t : List UInt8) (h : bytB lim l b = false) : b = false ∧ bytV lim (l ++ t) = bytV lim l ∧ bytL lim (l ++ t) = bytL lim l ++ t ∧ bytB lim (l ++ t) b = false := by
  unfold bytB takeB at h
  split at h
  · rename_i hx
    obtain ⟨h1, h2, h3, h4⟩ := num_more t h
    subst h1
    unfold bytV bytL bytB takeV takeL takeB
    rw [h2, h3, h4, if_pos hx, if_pos hx, if_pos (by rw [List.length_append]; omega), if_pos (by rw [List.length_append]; omega), if_pos (by rw [List.length_append]; omega), List.take_append_of_le_length hx, List.drop_append_of_le_length hx]
    exact ⟨rfl, rfl, rfl, rfl⟩
  · cases h
theorem rl_more {l : List UInt8} {b : Bool} (t : List UInt8) : ∀ k, rb l b k = false → b = false ∧ rl (l ++ t) k = rl l k ++ t ∧ rb (l ++ t) b k = false ∧ ∀ j, j < k → numV most (rl (l ++ t) j) = numV most (rl l j)
  | 0, h => ⟨h, rfl, h, fun j hj => absurd hj (Nat.not_lt_zero _)⟩
  | k + 1, h => by
    rw [rb] at h
    obtain ⟨h1, h2, h3, h4⟩ := num_more t h
    obtain ⟨g1, g2, g3, g4⟩ := rl_more t k h1
    rw [h1] at h4
    refine ⟨g1, by rw [rl, rl, g2, h3], by rw [rb, g2, g3]; exact h4, fun j hj => ?_⟩
    rcases Nat.lt_or_eq_of_le (Nat.le_of_lt_succ hj) with hj | rfl
    · exact g4 j hj
    · rw [g2, h2]
theorem vec_more {l : List UInt8} {b : Bool} (t : List UInt8) (h : rb l b 8 = false) : b = false ∧ rl (l ++ t) 8 = rl l 8 ++ t ∧ rb (l ++ t) b 8 = false ∧ getV (l ++ t) b = getV l b := by
  obtain ⟨g1, g2, g3, g4⟩ := rl_more t 8 h
  refine ⟨g1, g2, g3, ?_⟩
  rw [getV, getV, g3, h, if_neg (by decide), if_neg (by decide), getW, getW]
  refine List.map_congr_left fun j hj => ?_
  have hj := List.mem_range.1 hj
  rw [if_pos hj, if_pos hj, g4 j hj]
/-- What is read of more bytes. -/
theorem rd_more {l : List UInt8} {top : Int} (t : List UInt8) (h : (rdE l top).2.2 = false) : rdE (l ++ t) top = ((rdE l top).1, (rdE l top).2.1 ++ t, false) := by
  simp only [rdE] at h ⊢
  obtain ⟨h8, i8, j8, k8⟩ := byt_more t h
  obtain ⟨h7, i7, j7, k7⟩ := byt_more t h8
  obtain ⟨h6, i6, j6, k6⟩ := byt_more t h7
  obtain ⟨h5, i5, j5, k5⟩ := num_more t h6
  obtain ⟨h4, i4, j4, k4⟩ := num_more t h5
  obtain ⟨h3, i3, j3, k3⟩ := vec_more t h4
  obtain ⟨h2, i2, j2, k2⟩ := num_more t h3
  obtain ⟨-, i1, j1, k1⟩ := num_more t h2
  rw [h8] at k8
  rw [h7] at k7
  rw [h6] at k6
  rw [h5] at k5
  rw [h4] at k4
  rw [h3] at j3 k3
  rw [h2] at k2
  have h3' := h3
  rw [h2] at h3'
  simp only [h2, h3', i1, j1, k1, i2, j2, k2, i3, j3, k3, i4, j4, k4, i5, j5, k5, i6, j6, k6, i7, j7, k7, i8, j8, k8]
/-- What is cut short is not read. -/
theorem get_cut {d n s0 s1 s2 s3 s4 s5 s6 s7 k c f v t : Int} (ok bad : Int) {top : Int} (h : goodE [d, n, s0, s1, s2, s3, s4, s5, s6, s7, k, c, f, v, t] = true) (ht : 7 ≤ top) (ht2 : top ≤ 1099511627776) (hc : 0 ≤ c) (hf : 0 ≤ f) (hv : 0 ≤ v) {m : Nat} (hm : m < (putE [d, n, s0, s1, s2, s3, s4, s5, s6, s7, k, c, f, v, t]).length) :
    getE top ok bad ((putE [d, n, s0, s1, s2, s3, s4, s5, s6, s7, k, c, f, v, t]).take m) = zeroE ++ [bad] := by
  have h1 := rd_put h ht ht2 hc hf hv
  generalize putE [d, n, s0, s1, s2, s3, s4, s5, s6, s7, k, c, f, v, t] = p at h1 hm
  have e : p = p.take m ++ p.drop m := (List.take_append_drop m p).symm
  unfold getE
  simp only
  rw [if_neg]
  intro hh
  simp only [Bool.and_eq_true, Bool.not_eq_true', List.isEmpty_iff] at hh
  have h2 := rd_more (p.drop m) hh.1.1
  rw [← e, h1, hh.1.2] at h2
  have h3 := congrArg (fun x => x.2.1.length) h2
  simp only [List.nil_append, List.length_nil, List.length_drop] at h3
  omega
theorem less_is {d n t d' n' t' a2 a3 a4 a5 a6 a7 a8 a9 a10 a11 a12 a13 b2 b3 b4 b5 b6 b7 b8 b9 b10 b11 b12 b13 : Int} :
    lessE [d, n, a2, a3, a4, a5, a6, a7, a8, a9, a10, a11, a12, a13, t] [d', n', b2, b3, b4, b5, b6, b7, b8, b9, b10, b11, b12, b13, t'] = true ↔ t < t' ∨ t = t' ∧ (d < d' ∨ d = d' ∧ n < n') := by
  have hz : ∀ a b : Int, (cmpI a b ≠ 0 ↔ a ≠ b) ∧ (cmpI a b < 0 ↔ a < b) := fun a b => by
    unfold cmpI
    by_cases h1 : a < b
    · simp [h1]; omega
    · by_cases h2 : b < a
      · simp [h1, h2]; omega
      · simp [h1, h2]; omega
  simp only [lessE, decide_eq_true_eq, (hz _ _).1]
  split
  · simp only [decide_eq_true_eq, (hz _ _).2]; omega
  · split
    · simp only [decide_eq_true_eq, (hz _ _).2]; omega
    · split
      · simp only [decide_eq_true_eq, (hz _ _).2]; omega
      · simp only [Bool.false_eq_true, false_iff]; omega
theorem over_self {d n s0 s1 s2 s3 s4 s5 s6 s7 k c f v t : Int} (h : goodE [d, n, s0, s1, s2, s3, s4, s5, s6, s7, k, c, f, v, t] = true) : overE [d, n, s0, s1, s2, s3, s4, s5, s6, s7, k, c, f, v, t] [d, n, s0, s1, s2, s3, s4, s5, s6, s7, k, c, f, v, t] = false := by
  obtain ⟨h1, h2, h3, h4, h5, h6, _⟩ := good_is h
  have : hasB [s0, s1, s2, s3, s4, s5, s6, s7] d n = false := by
    simp only [hasB, h6, Bool.and_eq_false_iff, decide_eq_false_iff_not]
    right; omega
  simp only [overE, this, Bool.and_false, Bool.false_and]
end Go.Proofs.Ytbhflfdlkiihgaa
