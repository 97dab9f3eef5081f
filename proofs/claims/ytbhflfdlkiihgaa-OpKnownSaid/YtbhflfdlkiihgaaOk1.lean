/- Edits: what is reckoned of them, and what is shown of the functions that write them. No condition. -/
import Derived.Test.YtbhflfdlkiihgaaSxR
import Derived.Test.YtbhflfdlkiihgaaSxV
import Derived.Test.YtbhflfdlkiihgaaOk0
import Derived.Test.YtbhflfdlkiihgaaWire2
import Derived.Test.YtbhflfdlkiihgaaRdB
namespace Go.Sx
open Go Go.RowKit Go.Bx
theorem open1 {w : World} {s : Sh} {vs : List Value} {xs : List (List Int)} (h : ArgsAre w [s] vs xs) : ∃ v x, vs = [v] ∧ xs = [x] ∧ ArgIs w s v x := by
  match vs, xs, h with
  | [v], [x], h => exact ⟨v, x, rfl, rfl, h.1⟩
  | [], [], h => exact h.elim
  | [], _ :: _, h => exact h.elim
  | _ :: _, [], h => exact h.elim
  | _ :: _ :: _, [_], h => exact h.2.elim
  | [_], _ :: _ :: _, h => exact h.2.elim
  | _ :: _ :: _, _ :: _ :: _, h => exact h.2.elim
theorem open0 {w : World} {vs : List Value} {xs : List (List Int)} (h : ArgsAre w [] vs xs) : vs = [] ∧ xs = [] := by
  match vs, xs, h with
  | [], [], h => exact ⟨rfl, rfl⟩
  | [], _ :: _, h => exact h.elim
  | _ :: _, [], h => exact h.elim
  | _ :: _, _ :: _, h => exact h.elim
theorem open2 {w : World} {s t : Sh} {vs : List Value} {xs : List (List Int)} (h : ArgsAre w [s, t] vs xs) : ∃ v u x y, vs = [v, u] ∧ xs = [x, y] ∧ ArgIs w s v x ∧ ArgIs w t u y := by
  match vs, xs, h with
  | v :: vs, x :: xs, h =>
    obtain ⟨u, y, rfl, rfl, h2⟩ := open1 h.2
    exact ⟨v, u, x, y, rfl, rfl, h.1, h2⟩
  | [], [], h => exact h.elim
  | [], _ :: _, h => exact h.elim
  | _ :: _, [], h => exact h.elim
theorem open3 {w : World} {s t r : Sh} {vs : List Value} {xs : List (List Int)} (h : ArgsAre w [s, t, r] vs xs) : ∃ v u z x y q, vs = [v, u, z] ∧ xs = [x, y, q] ∧ ArgIs w s v x ∧ ArgIs w t u y ∧ ArgIs w r z q := by
  match vs, xs, h with
  | v :: vs, x :: xs, h =>
    obtain ⟨u, z, y, q, rfl, rfl, h2, h3⟩ := open2 h.2
    exact ⟨v, u, z, x, y, q, rfl, rfl, h.1, h2, h3⟩
  | [], [], h => exact h.elim
  | [], _ :: _, h => exact h.elim
  | _ :: _, [], h => exact h.elim
theorem res_opq {g : Nat → Int} {w' : World} {B : Nat} {r : Value} {L : List UInt8} (h : Own w' B 1 r L.length (bvs L)) (hg : g 0 = codZ L) (hl : L.length ≤ maxLen) : ResIs g [.opq] B r w' ∧ goods g 0 [.opq] := by
  refine ⟨?_, ⟨?_, trivial⟩⟩
  · show Sl w' 1 r (decZ (g 0)).length (bvs (decZ (g 0))) ∧ (0 < (decZ (g 0)).length → ∀ k, r.ownBlock = some k → B ≤ k)
    rw [hg, decZ_codZ]
    exact ⟨h.sl, fun hp k hk => own_fresh h hp hk⟩
  · show Str (g 0)
    rw [hg]; exact Str.cod hl
theorem b2i_dec {p q : Prop} {dp : Decidable p} {dq : Decidable q} {x : Int} (h : x = b2i (@decide p dp)) (e : p ↔ q) : x = b2i (@decide q dq) := by
  rw [h]; congr 1; rw [Bool.eq_iff_iff, decide_eq_true_eq, decide_eq_true_eq]; exact e
theorem b2i_not {x y : Int} {b : Bool} {dy : Decidable (y ≠ 0)} (h : x = b2i !(@decide (y ≠ 0) dy)) (e : y = b2i b) : x = b2i !b := by
  subst e; rw [h]; congr 2; cases b <;> simp [b2i]
theorem b2i_beq {x y z : Int} {b c g : Bool} {dy : Decidable (y ≠ 0)} {dz : Decidable (z ≠ 0)} (h : x = b2i ((@decide (y ≠ 0) dy == @decide (z ≠ 0) dz) != g)) (e : y = b2i b) (e2 : z = b2i c) : x = b2i ((b == c) != g) := by
  subst e e2; rw [h]; cases b <;> cases c <;> simp [b2i]
theorem b2i_cond {x : Int} {b c : Bool} {dx : Decidable (x ≠ 0)} (h : x = b2i b) (e : b = c) : @decide (x ≠ 0) dx = c := by
  subst e; subst h; cases b <;> simp [b2i]
theorem b2i_eqs {ρ : Nat → Int} {x : Int} {q : List (Ref × Ref)} {l m : List Int} {d : Decidable (l = m)} (h : x = b2i (q.all fun p => decide (p.1.den ρ = p.2.den ρ))) (e1 : q.map (fun p => p.1.den ρ) = l) (e2 : (q.map fun p => p.2.den ρ) = m) : x = b2i (@decide (l = m) d) := by
  subst e1 e2; rw [h, eqs_lists]; congr
theorem len15 : ∀ {x : List Int}, x.length = 15 → ∃ a0 a1 a2 a3 a4 a5 a6 a7 a8 a9 a10 a11 a12 a13 a14, x = [a0, a1, a2, a3, a4, a5, a6, a7, a8, a9, a10, a11, a12, a13, a14]
  | [a0, a1, a2, a3, a4, a5, a6, a7, a8, a9, a10, a11, a12, a13, a14], _ => ⟨a0, a1, a2, a3, a4, a5, a6, a7, a8, a9, a10, a11, a12, a13, a14, rfl⟩
end Go.Sx
namespace Go.Proofs.Ytbhflfdlkiihgaa
open Go.RowKit Go.Bx Go.Sx
theorem mixed : Try.prog.follows .mixedOrders = true := by kernel_rfl
abbrev ED : Sh := .cells [.int .i64, .int .i64, .int .i64, .int .i64, .int .i64, .int .i64, .int .i64, .int .i64, .int .i64, .int .i64, .int .i64, .str, .str, .str, .int .i64]
/-- A string's length. -/
def slen (z : Int) : Int := ((decZ z).length : Int)
def longE : List Int → Bool
  | [_, _, _, _, _, _, _, _, _, _, _, c, f, v, _] => decide (60 < ((decZ c).length : Int)) || decide (60 < ((decZ f).length : Int)) || decide (250 < ((decZ v).length : Int))
  | _ => true
/-- How two numbers compare. -/
def cmpI (a b : Int) : Int := if decide (a < b) then -1 else if decide (b < a) then 1 else 0
def lessE : List Int → List Int → Bool
  | [d, n, _, _, _, _, _, _, _, _, _, _, _, _, t], [d', n', _, _, _, _, _, _, _, _, _, _, _, _, t'] => if decide (cmpI t t' ≠ 0) then decide (cmpI t t' < 0) else if decide (cmpI d d' ≠ 0) then decide (cmpI d d' < 0) else if decide (cmpI n n' ≠ 0) then decide (cmpI n n' < 0) else false
  | _, _ => false
def overE : List Int → List Int → Bool
  | [_, _, s0, s1, s2, s3, s4, s5, s6, s7, k, c, f, _, _], [d', n', _, _, _, _, _, _, _, _, k', c', f', _, _] =>
    !decide (k' ≠ 1) && hasB [s0, s1, s2, s3, s4, s5, s6, s7] d' n' && !decide (c ≠ c') && (decide (k = 2) || (decide (k = 1) && decide (f = f')))
  | _, _ => false
def goodE : List Int → Bool
  | [d, n, s0, s1, s2, s3, s4, s5, s6, s7, k, c, f, v, t] =>
    (decide (0 ≤ d) && decide (d < 8)) && !decide (n < 1) && !decide (1099511627776 < n) && goodB [s0, s1, s2, s3, s4, s5, s6, s7] && !decide ([s0, s1, s2, s3, s4, s5, s6, s7].getD d.toNat 0 ≠ IntKind.i64.wrap (n - 1)) &&
      !decide (t < 0) && !decide (1099511627776 < t) && nameB (decZ c) &&
      (if decide (k = 1) then nameB (decZ f) && decide (((decZ v).length : Int) ≤ 200) else decide (k = 2) && (decide (f = 0) && decide (v = 0)))
  | _ => false
/-- An edit's bytes. -/
def putE : List Int → List UInt8
  | [d, n, s0, s1, s2, s3, s4, s5, s6, s7, k, c, f, v, t] =>
    if goodE [d, n, s0, s1, s2, s3, s4, s5, s6, s7, k, c, f, v, t] then ((((putL (([] ++ enc d.toNat) ++ enc n.toNat) [s0, s1, s2, s3, s4, s5, s6, s7] ++ enc k.toNat) ++ enc t.toNat) ++ lenE (decZ c)) ++ lenE (decZ f)) ++ lenE (decZ v) else []
  | _ => []
/-- Bytes read as an edit: the numbers, what is left, whether all was as told. -/
def rdE (l0 : List UInt8) (top : Int) : List Int × List UInt8 × Bool :=
  let l1 := numL top l0
  let b1 := numB top l0 false
  let l2 := numL 1099511627776 l1
  let b2 := numB 1099511627776 l1 b1
  let l3 := rl l2 8
  let b3 := rb l2 b2 8
  let l4 := numL 2 l3
  let b4 := numB 2 l3 b3
  let l5 := numL 1099511627776 l4
  let b5 := numB 1099511627776 l4 b4
  let l6 := bytL 40 l5
  let b6 := bytB 40 l5 b5
  let l7 := bytL 40 l6
  let b7 := bytB 40 l6 b6
  let l8 := bytL 200 l7
  let b8 := bytB 200 l7 b7
  (numV top l0 :: numV 1099511627776 l1 :: (getV l2 b2 ++ [numV 2 l3, codZ (bytV 40 l5), codZ (bytV 40 l6), codZ (bytV 200 l7), numV 1099511627776 l4]), l8, b8)
def zeroE : List Int := [0, 0, 0, 0, 0, 0, 0, 0, 0, 0, 0, 0, 0, 0, 0]
/-- What is read, and how: 0, or the error's number (or, of the document's own, 1 or 0). -/
def getE (top : Int) (ok bad : Int) (l : List UInt8) : List Int :=
  let r := rdE l top
  if (!r.2.2 && r.2.1.isEmpty) && goodE r.1 then r.1 ++ [ok] else zeroE ++ [bad]
/-- What the paper's own reader has before it. -/
def lP (z p b : Int) : List UInt8 := cond (decide (b ≠ 0)) [] ((decZ z).drop p.toNat)
def dG (z : Int) : Value × TypeId × List UInt8 := (.bool false, 0, decZ z)
def ogZ (j : Nat) (xs : List (List Int)) : List Int :=
  match j, xs with
  | 1, [[z], [v]] => [codZ (decZ z ++ enc v.toNat)]
  | 2, [[z], [s]] => [codZ (decZ z ++ lenE (decZ s))]
  | 3, [[z], a] => [codZ (putL (decZ z) a)]
  | 4, [a] => [b2i (goodB a)]
  | 5, [[s]] => [b2i (nameB (decZ s))]
  | 6, [a, [d, n]] => [b2i (hasB a d n)]
  | 7, [[a], [b]] => [cmpI a b]
  | 10, [e] => [b2i (goodE e)]
  | 11, [a, b] => [b2i (overE a b)]
  | 12, [a, b] => [b2i (lessE a b)]
  | 13, [e] => [b2i (longE e)]
  | 14, [e] => [codZ (putE e)]
  | 15, [[z]] => getE 8 0 3 (decZ z)
  | 20, [[z, b], [x]] => [codZ (numL x (decZ z)), b2i (numB x (decZ z) (decide (b ≠ 0))), numV x (decZ z)]
  | 21, [[z, b], [x]] => [codZ (bytL x (decZ z)), b2i (bytB x (decZ z) (decide (b ≠ 0))), codZ (bytV x (decZ z))]
  | 22, [[z, b]] => codZ (rl (decZ z) 8) :: b2i (rb (decZ z) (decide (b ≠ 0)) 8) :: getV (decZ z) (decide (b ≠ 0))
  | 23, [[z]] => [z]
  | 8, [[z], [s]] => [codZ (decZ z ++ lenE (decZ s))]
  | 30, [[z, p, b], [x]] => [z, (atP (dG z) p.toNat (numL x (lP z p b)) (numB x (lP z p b) (decide (b ≠ 0))) : Nat), b2i (numB x (lP z p b) (decide (b ≠ 0))), numV x (lP z p b)]
  | 31, [[z, p, b], [x]] => [z, (atB (dG z) p.toNat x (lP z p b) (decide (b ≠ 0)) : Nat), b2i (bytB x (lP z p b) (decide (b ≠ 0))), codZ (bytV x (lP z p b))]
  | 32, [[z, p, b]] => z :: ((atV (dG z) p.toNat (lP z p b) (decide (b ≠ 0)) 8 : Nat) : Int) :: b2i (rb (lP z p b) (decide (b ≠ 0)) 8) :: getV (lP z p b) (decide (b ≠ 0))
  | 35, [[z]] => getE 7 1 0 (decZ z)
  | 50, [a, b] => mergeL a b
  | 51, [a, b] => [b2i (leB a b)]
  | 52, [a, b] => [cmpL a b]
  | 53, [a] => [sumL a]
  | _, _ => [1]
def opre (j : Nat) (xs : List (List Int)) : Prop :=
  match j, xs with
  | 1, [[z], _] => (decZ z).length ≤ 1000000
  | 2, [[z], [s]] => (decZ z).length ≤ 1000000 ∧ (decZ s).length ≤ 1000000
  | 3, [[z], _] => (decZ z).length ≤ 1000000
  | 5, [[s]] => (decZ s).length ≤ 1000000
  | 10, [[_, _, _, _, _, _, _, _, _, _, _, c, f, v, _]] => (decZ c).length ≤ 1000 ∧ (decZ f).length ≤ 1000 ∧ (decZ v).length ≤ 1000
  | 14, [[_, _, _, _, _, _, _, _, _, _, _, c, f, v, _]] => (decZ c).length ≤ 1000 ∧ (decZ f).length ≤ 1000 ∧ (decZ v).length ≤ 1000
  | 15, [[z]] => (decZ z).length ≤ 1000
  | 35, [[z]] => (decZ z).length ≤ 1000
  | 20, [[z, _], _] => (decZ z).length ≤ 1000000
  | 21, [[z, _], _] => (decZ z).length ≤ 1000000
  | 22, [[z, _]] => (decZ z).length ≤ 1000000
  | 23, [[z]] => (decZ z).length ≤ 1000000
  | 8, [[z], [s]] => (decZ z).length ≤ 1000000 ∧ (decZ s).length ≤ 1000000
  | 30, [[z, p, _], [x]] => (0 ≤ p ∧ p ≤ ((decZ z).length : Int)) ∧ (decZ z).length ≤ 1000000 ∧ 0 ≤ x
  | 31, [[z, p, _], [x]] => (0 ≤ p ∧ p ≤ ((decZ z).length : Int)) ∧ (decZ z).length ≤ 1000000 ∧ 0 ≤ x ∧ x ≤ 1000000
  | 32, [[z, p, _]] => (0 ≤ p ∧ p ≤ ((decZ z).length : Int)) ∧ (decZ z).length ≤ 1000000
  | _, _ => True
def ofns : Fns := ⟨ogZ, opre⟩
theorem i64_of {x : Int} (h : InR .i64 x) : I64 x := ⟨h.lo, h.hi⟩
def cNum : Ctr := ⟨27, 1, [.opq, .int .i64], [.opq]⟩
def cText : Ctr := ⟨29, 2, [.opq, .strv], [.opq]⟩
def cVPut : Ctr := ⟨28, 3, [.opq, .arr .i64 8], [.opq]⟩
def cVGood : Ctr := ⟨31, 4, [.arr .i64 8], [.bool]⟩
def cName : Ctr := ⟨32, 5, [.strv], [.bool]⟩
def cHas : Ctr := ⟨21, 6, [.arr .i64 8, .cells [.int .i64, .int .i64]], [.bool]⟩
theorem okNum : CtrOK Try.prog ofns cNum := by
  intro w vs xs ha hp
  obtain ⟨v, u, x, y, rfl, rfl, ⟨z, rfl, hs, hstr⟩, ⟨n, rfl, rfl, hn⟩⟩ := open2 ha
  have hp : (decZ z).length ≤ 1000000 := hp
  refine .inl ⟨Try.f27, _, by kernel_rfl, by kernel_rfl, rfl, (num_any v (decZ z) n w hs ⟨by omega⟩ (i64_of hn)).mono ?_⟩
  rintro e w' ⟨r, rfl, ho, hb⟩
  have hl : (decZ z ++ enc n.toNat).length ≤ maxLen := by have := enc_len n.toNat (by have := hn.hi; simp only [hi] at this; omega); rw [List.length_append]; unfold maxLen; omega
  obtain ⟨a, b⟩ := res_opq (g := fun i => (ofns.g 1 [[z], [n]]).getD i 0) ho rfl hl
  exact ⟨r, rfl, a, b, hb⟩
theorem okText : CtrOK Try.prog ofns cText := by
  intro w vs xs ha hp
  obtain ⟨v, u, x, y, rfl, rfl, ⟨z, rfl, hs, hstr⟩, ⟨n, rfl, rfl, hn⟩⟩ := open2 ha
  have hp : (decZ z).length ≤ 1000000 ∧ (decZ n).length ≤ 1000000 := hp
  have hsz : (⟨(decZ n).toArray⟩ : ByteArray).size = (decZ n).length := by simp [ByteArray.size]
  refine .inl ⟨Try.f29, _, by kernel_rfl, by kernel_rfl, rfl, (wtext_any v ⟨(decZ n).toArray⟩ (decZ z) w hs ⟨by rw [hsz]; omega⟩).mono ?_⟩
  rintro e w' ⟨r, rfl, ho, hb⟩
  have hl : (decZ z ++ lenE (decZ n)).length ≤ maxLen := by have := enc_len (decZ n).length (by omega); simp only [lenE, List.length_append]; unfold maxLen; omega
  obtain ⟨a, b⟩ := res_opq (g := fun i => (ofns.g 2 [[z], [n]]).getD i 0) (L := decZ z ++ lenE (decZ n)) ho rfl hl
  exact ⟨r, rfl, a, b, hb⟩
theorem okVPut : CtrOK Try.prog ofns cVPut := by
  intro w vs xs ha hp
  obtain ⟨v, u, x, y, rfl, rfl, ⟨z, rfl, hs, hstr⟩, ⟨hl, rfl, hi⟩⟩ := open2 ha
  have hp : (decZ z).length ≤ 1000000 := hp
  refine .inl ⟨Try.f28, _, by kernel_rfl, by kernel_rfl, rfl, (put_any v (decZ z) y hl (fun x hx => i64_of (hi x hx)) w hs ⟨by omega⟩).mono ?_⟩
  rintro e w' ⟨r, rfl, ho, hb⟩
  have hl : (putL (decZ z) y).length ≤ maxLen := by
    have h1 : ∀ l : List Int, (∀ x ∈ l, InR .i64 x) → (l.flatMap fun x => enc x.toNat).length ≤ 16 * l.length := fun l => by
      induction l with
      | nil => intro _; simp
      | cons x l ih =>
        intro h
        have := enc_len x.toNat (by have := (h x (by simp)).hi; simp only [Go.Sx.hi] at this; omega)
        have := ih fun y hy => h y (by simp [hy])
        simp only [List.flatMap_cons, List.length_append, List.length_cons]; omega
    have := h1 y hi
    unfold putL; rw [List.length_append]; unfold maxLen; omega
  obtain ⟨a, b⟩ := res_opq (g := fun i => (ofns.g 3 [[z], y]).getD i 0) ho rfl hl
  exact ⟨r, rfl, a, b, hb⟩
theorem okVGood : CtrOK Try.prog ofns cVGood := by
  intro w vs xs ha _
  obtain ⟨v, x, rfl, rfl, ⟨hl, rfl, _⟩⟩ := open1 ha
  refine .inl ⟨Try.f31, _, by kernel_rfl, by kernel_rfl, rfl, (good_any x hl w).mono ?_⟩
  rintro e w' ⟨rfl, hb⟩
  exact ⟨_, rfl, by show Value.bool (goodB x) = Value.bool (decide (b2i (goodB x) ≠ 0)); rw [b2i_ne], ⟨trivial, trivial⟩, hb⟩
theorem okName : CtrOK Try.prog ofns cName := by
  intro w vs xs ha hp
  obtain ⟨v, x, rfl, rfl, ⟨z, rfl, rfl, _⟩⟩ := open1 ha
  have hp : (decZ z).length ≤ 1000000 := hp
  refine .inl ⟨Try.f32, _, by kernel_rfl, by kernel_rfl, rfl, (name_any (decZ z) (by omega) w).mono ?_⟩
  rintro e w' ⟨rfl, hb⟩
  exact ⟨_, rfl, by show Value.bool (nameB (decZ z)) = Value.bool (decide (b2i (nameB (decZ z)) ≠ 0)); rw [b2i_ne], ⟨trivial, trivial⟩, hb⟩
theorem okHas : CtrOK Try.prog ofns cHas := by
  intro w vs xs ha hp
  obtain ⟨v, u, x, y, rfl, rfl, ⟨hl, rfl, _⟩, ⟨hl2, rfl, _⟩⟩ := open2 ha
  obtain ⟨d, n, rfl⟩ : ∃ d n, y = [d, n] := by
    match y, hl2 with
    | [d, n], _ => exact ⟨d, n, rfl⟩
  refine .inl ⟨Try.f21, _, by kernel_rfl, by kernel_rfl, rfl, (has_any x d n hl w).mono ?_⟩
  rintro e w' ⟨rfl, hb⟩
  exact ⟨_, rfl, by show Value.bool (hasB x d n) = Value.bool (decide (b2i (hasB x d n) ≠ 0)); rw [b2i_ne], ⟨trivial, trivial⟩, hb⟩
theorem len_nil : (decZ 0).length ≤ 0 := by rw [decZ_zero]; exact Nat.le_refl _
theorem len_num {z v : Int} {n : Nat} (h : (decZ z).length ≤ n) (hv : InR .i64 v) : (decZ (codZ (decZ z ++ enc v.toNat))).length ≤ n + 16 := by
  have := enc_len v.toNat (by have := hv.hi; simp only [hi] at this; omega)
  rw [decZ_codZ, List.length_append]; omega
theorem len_txt {z s : Int} {n m : Nat} (h : (decZ z).length ≤ n) (hs : (decZ s).length ≤ m) (hm : m ≤ 1000000) : (decZ (codZ (decZ z ++ lenE (decZ s)))).length ≤ n + (m + 16) := by
  have := enc_len (decZ s).length (by omega)
  rw [decZ_codZ]; simp only [lenE, List.length_append]; omega
theorem len_put {z : Int} {a : List Int} {n : Nat} (h : (decZ z).length ≤ n) (hl : a.length = 8) (hi : ∀ x ∈ a, InR .i64 x) : (decZ (codZ (putL (decZ z) a))).length ≤ n + 128 := by
  have h1 : ∀ l : List Int, (∀ x ∈ l, InR .i64 x) → (l.flatMap fun x => enc x.toNat).length ≤ 16 * l.length := fun l => by
    induction l with
    | nil => intro _; simp
    | cons x l ih =>
      intro h
      have := enc_len x.toNat (by have := (h x (by simp)).hi; simp only [Go.Sx.hi] at this; omega)
      have := ih fun y hy => h y (by simp [hy])
      simp only [List.flatMap_cons, List.length_append, List.length_cons]; omega
  have := h1 a hi
  rw [decZ_codZ]; unfold putL; rw [List.length_append]; omega
def OT1 : List Ctr := [cNum, cText, cVPut, cVGood, cName, cHas]
theorem okOT1 : ∀ c ∈ OT1, CtrOK Try.prog ofns c := by
  intro c hc
  simp only [OT1, List.mem_cons, List.not_mem_nil, or_false] at hc
  rcases hc with rfl | rfl | rfl | rfl | rfl | rfl
  · exact okNum
  · exact okText
  · exact okVPut
  · exact okVGood
  · exact okName
  · exact okHas
#print axioms okOT1
end Go.Proofs.Ytbhflfdlkiihgaa
