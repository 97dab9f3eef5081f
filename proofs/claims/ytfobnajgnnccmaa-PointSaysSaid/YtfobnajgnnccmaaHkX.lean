/- Points of the curve, the paper's own: what is shown of the functions. No condition. -/
import Derived.Test.YtfobnajgnnccmaaPkZ
import Derived.Test.YtfobnajgnnccmaaGkY
namespace Go.Bx
theorem mulF_ok {a b : List Int} (ha : FF a) (hb : FF b) : FF (mulF a b) ∧ dv 65536 (mulF a b) % PP = (dv 65536 a * dv 65536 b) % PP := ⟨mulF_ff ha hb, mulF_mod ha hb⟩
/-- A point's four numbers, in pieces. -/
def pX (l : List Int) : List Int := l.take 16
def pY (l : List Int) : List Int := (l.drop 16).take 16
def pZ (l : List Int) : List Int := (l.drop 32).take 16
def pT (l : List Int) : List Int := (l.drop 48).take 16
theorem Rep.congr {q q' : Q4} {p : Int × Int} (h : Rep q p) (hx : q'.x % PP = q.x % PP) (hy : q'.y % PP = q.y % PP) (hz : q'.z % PP = q.z % PP) (ht : q'.t % PP = q.t % PP) : Rep q' p := by
  refine ⟨fun h0 => h.z ?_, ?_, ?_, ?_, h.on, h.cn⟩
  · have := Z.iff.2 hz
    exact Z.of2 (a := 1) (b := -1) (by grind) h0 this
  · rw [hx, h.x]; exact (mul_congP rfl hz).symm
  · rw [hy, h.y]; exact (mul_congP rfl hz).symm
  · rw [ht, h.t]; exact (mul_congP rfl hz).symm
structure PF (l : List Int) : Prop where
  x : FF (pX l)
  y : FF (pY l)
  z : FF (pZ l)
  t : FF (pT l)
def fQ' (l : List Int) : Q4 := ⟨dv 65536 (pX l), dv 65536 (pY l), dv 65536 (pZ l), dv 65536 (pT l)⟩
def four (a b c d : List Int) : List Int := a ++ (b ++ (c ++ d))
theorem four_parts {a b c d : List Int} (la : a.length = 16) (lb : b.length = 16) (lc : c.length = 16) (ld : d.length = 16) : pX (four a b c d) = a ∧ pY (four a b c d) = b ∧ pZ (four a b c d) = c ∧ pT (four a b c d) = d ∧ (four a b c d).length = 64 := by
  unfold pX pY pZ pT four
  refine ⟨?_, ?_, ?_, ?_, ?_⟩
  · exact List.take_left' la
  · rw [List.drop_left' la]; exact List.take_left' lb
  · rw [show 32 = 16 + 16 from rfl, ← List.drop_drop, List.drop_left' la, List.drop_left' lb]; exact List.take_left' lc
  · rw [show 48 = 16 + (16 + 16) from rfl, ← List.drop_drop, ← List.drop_drop, List.drop_left' la, List.drop_left' lb, List.drop_left' lc, List.take_of_length_le (by omega)]
  · simp only [List.length_append]; omega
theorem four_ff {a b c d : List Int} (ha : FF a) (hb : FF b) (hc : FF c) (hd : FF d) : PF (four a b c d) := by
  obtain ⟨h1, h2, h3, h4, -⟩ := four_parts ha.len hb.len hc.len hd.len
  exact ⟨by rw [h1]; exact ha, by rw [h2]; exact hb, by rw [h3]; exact hc, by rw [h4]; exact hd⟩
theorem four_Q {a b c d : List Int} (ha : FF a) (hb : FF b) (hc : FF c) (hd : FF d) : fQ' (four a b c d) = ⟨dv 65536 a, dv 65536 b, dv 65536 c, dv 65536 d⟩ := by
  obtain ⟨h1, h2, h3, h4, -⟩ := four_parts ha.len hb.len hc.len hd.len
  unfold fQ'; rw [h1, h2, h3, h4]
def aA (p q : List Int) : List Int := mulF (minF (pY p) (pX p)) (minF (pY q) (pX q))
def aB (p q : List Int) : List Int := mulF (plusF (pX p) (pY p)) (plusF (pX q) (pY q))
def aC (p q dd : List Int) : List Int := mulF (mulF (pT p) (pT q)) (plusF dd dd)
def aE (p q : List Int) : List Int := plusF (mulF (pZ p) (pZ q)) (mulF (pZ p) (pZ q))
def addF (p q dd : List Int) : List Int :=
  four (mulF (minF (aB p q) (aA p q)) (minF (aE p q) (aC p q dd))) (mulF (plusF (aB p q) (aA p q)) (plusF (aE p q) (aC p q dd))) (mulF (plusF (aE p q) (aC p q dd)) (minF (aE p q) (aC p q dd))) (mulF (minF (aB p q) (aA p q)) (plusF (aB p q) (aA p q)))
theorem plusQ_x' (p q : Q4) : (plusQ p q).x = timesZ (eQ p q) (Go.Bx.fQ p q) := by simp only [plusQ]
theorem plusQ_y' (p q : Q4) : (plusQ p q).y = timesZ (gQ p q) (hQ p q) := by simp only [plusQ]
theorem plusQ_z' (p q : Q4) : (plusQ p q).z = timesZ (Go.Bx.fQ p q) (gQ p q) := by simp only [plusQ]
theorem plusQ_t' (p q : Q4) : (plusQ p q).t = timesZ (eQ p q) (hQ p q) := by simp only [plusQ]
theorem addF_ok {p q dd : List Int} (hp : PF p) (hq : PF q) (hd : FF dd) (hD : dv 65536 dd % PP = DD % PP) : PF (addF p q dd) ∧ (addF p q dd).length = 64 ∧ ∀ a b, Rep (fQ' p) a → Rep (fQ' q) b → Rep (fQ' (addF p q dd)) (pa a b) := by
  have a1 := minF_ok hp.y hp.x
  have a2 := minF_ok hq.y hq.x
  have oA := mulF_ok a1.1 a2.1
  have b1 := plusF_ok hp.x hp.y
  have b2 := plusF_ok hq.x hq.y
  have oB := mulF_ok b1.1 b2.1
  have c1 := mulF_ok hp.t hq.t
  have c2 := plusF_ok hd hd
  have oC := mulF_ok c1.1 c2.1
  have z1 := mulF_ok hp.z hq.z
  have oE := plusF_ok z1.1 z1.1
  have of_ := minF_ok oB.1 oA.1
  have og := minF_ok oE.1 oC.1
  have oh := plusF_ok oE.1 oC.1
  have oi := plusF_ok oB.1 oA.1
  have x := mulF_ok of_.1 og.1
  have y := mulF_ok oi.1 oh.1
  have z := mulF_ok oh.1 og.1
  have t := mulF_ok of_.1 oi.1
  refine ⟨four_ff x.1 y.1 z.1 t.1, (four_parts x.1.len y.1.len z.1.len t.1.len).2.2.2.2, fun a b ra rb => ?_⟩
  have e := four_Q x.1 y.1 z.1 t.1
  have hr := ra.plus rb
  have eA : dv 65536 (aA p q) % PP = timesZ (minZ (fQ' p).y (fQ' p).x) (minZ (fQ' q).y (fQ' q).x) % PP := by
    refine oA.2.trans (Eq.trans ?_ (ti (minZ_mod _ _) (minZ_mod _ _)).symm)
    exact mul_congP a1.2 a2.2
  have eB : dv 65536 (aB p q) % PP = timesZ (plusZ (fQ' p).y (fQ' p).x) (plusZ (fQ' q).y (fQ' q).x) % PP := by
    refine oB.2.trans (Eq.trans ?_ (ti (plusZ_mod _ _) (plusZ_mod _ _)).symm)
    exact mul_congP (b1.2.trans (by rw [Int.add_comm]; rfl)) (b2.2.trans (by rw [Int.add_comm]; rfl))
  have eC : dv 65536 (aC p q dd) % PP = cQ (fQ' p) (fQ' q) % PP := by
    refine oC.2.trans (Eq.trans ?_ (pl (ti (ti rfl rfl) rfl) (ti (ti rfl rfl) rfl)).symm)
    refine (mul_congP c1.2 (c2.2.trans (add_congP hD hD))).trans (congrArg (· % PP) ?_)
    simp only [fQ']; grind
  have eE : dv 65536 (aE p q) % PP = zQ (fQ' p) (fQ' q) % PP := by
    refine oE.2.trans (Eq.trans ?_ (pl (ti rfl rfl) (ti rfl rfl)).symm)
    exact add_congP z1.2 z1.2
  have e_e := of_.2.trans (mi eB.symm eA.symm).symm
  have e_f := og.2.trans (mi eE.symm eC.symm).symm
  have e_g := oh.2.trans (pl eE.symm eC.symm).symm
  have e_h := oi.2.trans (pl eB.symm eA.symm).symm
  have e' : fQ' (addF p q dd) = _ := e
  refine hr.congr ?_ ?_ ?_ ?_
  · rw [e', plusQ_x']; exact x.2.trans ((mul_congP e_e e_f).trans (timesZ_mod _ _).symm)
  · rw [e', plusQ_y']; exact y.2.trans ((mul_congP e_h e_g).trans ((congrArg (· % PP) (Int.mul_comm _ _)).trans (timesZ_mod _ _).symm))
  · rw [e', plusQ_z']; exact z.2.trans ((mul_congP e_g e_f).trans ((congrArg (· % PP) (Int.mul_comm _ _)).trans (timesZ_mod _ _).symm))
  · rw [e', plusQ_t']; exact t.2.trans ((mul_congP e_e e_h).trans (timesZ_mod _ _).symm)
/-- The curve's number, in pieces. -/
def kF : List Int := [56130, 1, 0, 0, 0, 0, 0, 0, 0, 0, 0, 0, 0, 0, 0, 0]
def dL : List Int := mulF (pairs16 (dg 256 32 (-121665 % PP))) (powF kF (PP - 2) 256)
theorem kF_ff : FF kF := dig_ff rfl (by intro z hz; simp only [kF, List.mem_cons, List.not_mem_nil, or_false] at hz; omega)
theorem d_gen : (-121665 * powZ 121666 (PP - 2) 256) % PP = DD := by
  have h := pow_iv (a := 121666) (by unfold Z; decide)
  have h3 : Z (DD * 121666 + 121665) := by unfold Z; decide
  generalize powZ 121666 (PP - 2) 256 = v at *
  refine Z.can (rmod _) (by decide) ?_
  have h1 := Z.mod (-121665 * v)
  generalize (-121665 * v) % PP = r at *
  refine cancel (a := 121666) (by unfold Z; decide) ?_
  exact Z.of3 (a := 121666) (b := -121665) (c := -1) (by grind) h1 h h3
theorem dL_ok : FF dL ∧ dv 65536 dL % PP = DD % PP := by
  have d1 : Dig 256 (dg 256 32 (-121665 % PP)) := dg_dig (by decide) _ _
  have i := in_ff (dg_len 256 32 (-121665 % PP)) d1
  have p := powF_ff kF_ff (PP - 2) 256
  have m := mulF_ok i.1 p
  refine ⟨m.1, ?_⟩
  have v1 : dv 256 (dg 256 32 (-121665 % PP)) = -121665 % PP := dv_dg_of (by decide) (rmod _).1 (by decide)
  have e1 : dv 65536 (pairs16 (dg 256 32 (-121665 % PP))) % PP = -121665 % PP := by rw [i.2, v1, Int.emod_emod]
  have e2 := powF_mod kF_ff (A := 121666) (by decide) (PP - 2) 256
  refine m.2.trans ((mul_congP e1 e2).trans ?_)
  rw [← d_gen, Int.emod_emod]
def zeroP : List Int := four (List.replicate 16 0) oneF oneF (List.replicate 16 0)
theorem zF_ff : FF (List.replicate 16 (0 : Int)) := dig_ff rfl (by intro z hz; obtain rfl := (List.mem_replicate.1 hz).2; decide)
theorem zeroP_ok : PF zeroP ∧ zeroP.length = 64 ∧ Rep (fQ' zeroP) pz := by
  refine ⟨four_ff zF_ff oneF_ff oneF_ff zF_ff, rfl, ?_⟩
  have e : fQ' zeroP = ⟨0, 1, 1, 0⟩ := (four_Q zF_ff oneF_ff oneF_ff zF_ff).trans (by rw [show dv 65536 (List.replicate 16 0) = 0 by decide, show dv 65536 oneF = 1 by decide])
  rw [e]; exact Rep.zero
def mulFn (p dd : List Int) (n : Int) : Nat → List Int
  | 0 => zeroP
  | k + 1 => if n / 2 ^ (255 - k) % 2 = 1 then addF (addF (mulFn p dd n k) (mulFn p dd n k) dd) p dd else addF (mulFn p dd n k) (mulFn p dd n k) dd
theorem mulFn_ff {p dd : List Int} (hp : PF p) (hd : FF dd) (hD : dv 65536 dd % PP = DD % PP) (n : Int) : ∀ k, PF (mulFn p dd n k) ∧ (mulFn p dd n k).length = 64
  | 0 => ⟨zeroP_ok.1, zeroP_ok.2.1⟩
  | k + 1 => by
    have ih := (mulFn_ff hp hd hD n k).1
    have a := addF_ok ih ih hd hD
    unfold mulFn
    split
    · have b := addF_ok a.1 hp hd hD; exact ⟨b.1, b.2.1⟩
    · exact ⟨a.1, a.2.1⟩
theorem mulFn_rep {p dd : List Int} (hp : PF p) (hd : FF dd) (hD : dv 65536 dd % PP = DD % PP) {a : Int × Int} (ha : Rep (fQ' p) a) (n : Nat) (hn : n < 2 ^ 256) : ∀ k, k ≤ 256 → Rep (fQ' (mulFn p dd n k)) (nm a (n / 2 ^ (256 - k)))
  | 0, _ => by
    rw [Nat.div_eq_of_lt (by exact hn)]
    exact zeroP_ok.2.2
  | k + 1, hk => by
    have ih := mulFn_rep hp hd hD ha n hn k (by omega)
    have fk := (mulFn_ff hp hd hD n k).1
    obtain ⟨m, hm⟩ : ∃ m, m = n / 2 ^ (255 - k) := ⟨_, rfl⟩
    have e1 : n / 2 ^ (256 - k) = m / 2 := by
      rw [hm, show 256 - k = (255 - k) + 1 by omega, Nat.pow_succ, Nat.div_div_eq_div_mul]
    have e2 : 256 - (k + 1) = 255 - k := by omega
    rw [e1] at ih
    rw [e2, ← hm]
    have ec : ((n : Int) / 2 ^ (255 - k) % 2 = 1) ↔ m % 2 = 1 := by
      have : (n : Int) / 2 ^ (255 - k) = (m : Int) := by rw [hm]; push_cast; rfl
      rw [this]; omega
    have a1 := addF_ok fk fk hd hD
    have d := a1.2.2 _ _ ih ih
    rw [← nm_add ha.on] at d
    unfold mulFn
    by_cases c : m % 2 = 1
    · rw [if_pos (ec.2 c)]
      have d2 := (addF_ok a1.1 hp hd hD).2.2 _ _ d ha
      have : pa (nm a (m / 2 + m / 2)) a = nm a m := by
        show nm a (m / 2 + m / 2 + 1) = nm a m
        congr 1; omega
      rwa [this] at d2
    · rw [if_neg (fun h => c (ec.1 h))]
      rwa [show m / 2 + m / 2 = m by omega] at d
/-- What the paper's own functions of points make of integers. -/
def encF (p : List Int) : List Int := dg 256 32 (dv 65536 (mulF (pY p) (powF (pZ p) (PP - 2) 256)) % PP + H255 * (dv 65536 (mulF (pX p) (powF (pZ p) (PP - 2) 256)) % PP % 2))
def dx2 (Y : Int) : List Int := mulF (minF (mulF (pairs16 (dg 256 32 Y)) (pairs16 (dg 256 32 Y))) oneF) (powF (plusF (mulF dL (mulF (pairs16 (dg 256 32 Y)) (pairs16 (dg 256 32 Y)))) oneF) (PP - 2) 256)
def dr (Y : Int) : Int := rootT (dv 65536 (dx2 Y)) % PP
def drr (A : Int) : Int := if dr (A % H255) % 2 = A / H255 then dr (A % H255) else (0 - dr (A % H255)) % PP
def okF (A : Int) : Prop := A % H255 < PP ∧ rtOK (dv 65536 (dx2 (A % H255))) ∧ ¬ (dr (A % H255) = 0 ∧ A / H255 = 1)
def decF (A : Int) : List Int := four (pairs16 (dg 256 32 (drr A))) (pairs16 (dg 256 32 (A % H255))) oneF (mulF (pairs16 (dg 256 32 (drr A))) (pairs16 (dg 256 32 (A % H255))))
noncomputable instance okF_dec (A : Int) : Decidable (okF A) := Classical.propDecidable _
def negF (p : List Int) : List Int := four (minF (List.replicate 16 0) (pX p)) (pY p) (pZ p) (minF (List.replicate 16 0) (pT p))
end Go.Bx
namespace Go.Proofs.Ytfobnajgnnccmaa
open Go.RowKit Go.Bx Go.Sx
set_option linter.unusedSimpArgs false
set_option linter.unusedVariables false
noncomputable def hg (j : Nat) (xs : List (List Int)) : List Int :=
  match j, xs with
  | 120, _ => dL
  | 121, [p, q, dd] => addF p q dd
  | 122, [n, p] => mulFn p dL (dv 256 n) 256
  | 123, [p] => encF p
  | 124, [w] => if okF (dv 256 w) then decF (dv 256 w) ++ [1] else List.replicate 64 0 ++ [0]
  | 125, [a, b] => if okF (dv 256 a) ∧ okF (dv 256 b) then encF (addF (decF (dv 256 a)) (decF (dv 256 b)) dL) ++ [1] else List.replicate 32 0 ++ [0]
  | 126, [a] => if okF (dv 256 a) then encF (negF (decF (dv 256 a))) ++ [1] else List.replicate 32 0 ++ [0]
  | 127, [n, a] => if okF (dv 256 a) then encF (mulFn (decF (dv 256 a)) dL (dv 256 n) 256) ++ [1] else List.replicate 32 0 ++ [0]
  | 128, [a] => if okF (dv 256 a) then dg 256 32 (drr (dv 256 a) % PP) ++ (dg 256 32 (dv 256 a % H255 % PP) ++ [1]) else List.replicate 32 0 ++ (List.replicate 32 0 ++ [0])
  | 130, [s] => -1 :: ((s.drop 1).take 112 ++ mulFn ((s.drop 33).take 64) ((s.drop 97).take 16) (dv 256 ((s.drop 1).take 32)) 256)
  | j, xs => pg j xs
def hpre (j : Nat) (xs : List (List Int)) : Prop :=
  match j, xs with
  | 121, [p, q, dd] => PF p ∧ PF q ∧ FF dd ∧ dv 65536 dd % PP = DD % PP
  | 122, [_, p] => PF p
  | 123, [p] => PF p
  | 130, [s] => s.getD 0 0 = 255 ∧ PF ((s.drop 33).take 64) ∧ FF ((s.drop 97).take 16) ∧ dv 65536 ((s.drop 97).take 16) % PP = DD % PP ∧ (s.drop 113).take 64 = zeroP
  | j, xs => ppre j xs
noncomputable def hfns : Fns := ⟨hg, hpre⟩
theorem hswap {c : Ctr} (h : CtrOK Try.prog sfns c) (hg : hfns.g c.j = sfns.g c.j) (hp : hfns.pre c.j = sfns.pre c.j) : CtrOK Try.prog hfns c := by
  unfold CtrOK at *; rw [hg, hp]; exact h
theorem hswap' {c : Ctr} (h : CtrOK Try.prog pfns c) (hg : hfns.g c.j = pfns.g c.j) (hp : hfns.pre c.j = pfns.pre c.j) : CtrOK Try.prog hfns c := by
  unfold CtrOK at *; rw [hg, hp]; exact h
def HT1 : List Ctr := [cFRoot, cFInv, cFPlus, cFMinus, cFTimes, cIn, cOut, cXGood, cXSub, cXOf]
theorem okHT1 : ∀ c ∈ HT1, CtrOK Try.prog hfns c := by
  intro c hc
  simp only [HT1, List.mem_cons, List.not_mem_nil, or_false] at hc
  rcases hc with rfl | rfl | rfl | rfl | rfl | rfl | rfl | rfl | rfl | rfl
  · exact hswap (okFRoot okOut) rfl rfl
  · exact hswap (okFInv okOut) rfl rfl
  · exact hswap okFPlus rfl rfl
  · exact hswap okFMinus rfl rfl
  · exact hswap okFTimes rfl rfl
  · exact hswap okIn rfl rfl
  · exact hswap okOut rfl rfl
  · exact hswap (okXGood okOut) rfl rfl
  · exact hswap (okXSub okOut) rfl rfl
  · exact hswap (okXOf okOut) rfl rfl
def cHD : Ctr := ⟨45, 120, [], [.arr .i64 16]⟩
theorem okHD : CtrOK Try.prog hfns cHD := by
  refine CtrOK.of okHT1 mixed (lf := 300) (d := 5) rfl fun w vs xs ha _ => ?_
  rw [show hfns.g cHD.j xs = dL from rfl]
  refine Go.Sx.Way.of (dec := []) (fs := [.need 71 [[.l (-121665)]], .call 0 71 [[.l (-121665)]] 32, .need 51 [[.v 0, .v 1, .v 2, .v 3, .v 4, .v 5, .v 6, .v 7, .v 8, .v 9, .v 10, .v 11, .v 12, .v 13, .v 14, .v 15, .v 16, .v 17, .v 18, .v 19, .v 20, .v 21, .v 22, .v 23, .v 24, .v 25, .v 26, .v 27, .v 28, .v 29, .v 30, .v 31]], .call 32 51 [[.v 0, .v 1, .v 2, .v 3, .v 4, .v 5, .v 6, .v 7, .v 8, .v 9, .v 10, .v 11, .v 12, .v 13, .v 14, .v 15, .v 16, .v 17, .v 18, .v 19, .v 20, .v 21, .v 22, .v 23, .v 24, .v 25, .v 26, .v 27, .v 28, .v 29, .v 30, .v 31]] 16, .need 57 [[.l 56130, .l 1, .l 0, .l 0, .l 0, .l 0, .l 0, .l 0, .l 0, .l 0, .l 0, .l 0, .l 0, .l 0, .l 0, .l 0]], .call 48 57 [[.l 56130, .l 1, .l 0, .l 0, .l 0, .l 0, .l 0, .l 0, .l 0, .l 0, .l 0, .l 0, .l 0, .l 0, .l 0, .l 0]] 16, .need 55 [[.v 32, .v 33, .v 34, .v 35, .v 36, .v 37, .v 38, .v 39, .v 40, .v 41, .v 42, .v 43, .v 44, .v 45, .v 46, .v 47], [.v 48, .v 49, .v 50, .v 51, .v 52, .v 53, .v 54, .v 55, .v 56, .v 57, .v 58, .v 59, .v 60, .v 61, .v 62, .v 63]], .call 64 55 [[.v 32, .v 33, .v 34, .v 35, .v 36, .v 37, .v 38, .v 39, .v 40, .v 41, .v 42, .v 43, .v 44, .v 45, .v 46, .v 47], [.v 48, .v 49, .v 50, .v 51, .v 52, .v 53, .v 54, .v 55, .v 56, .v 57, .v 58, .v 59, .v 60, .v 61, .v 62, .v 63]] 16]) (refs := [.v 64, .v 65, .v 66, .v 67, .v 68, .v 69, .v 70, .v 71, .v 72, .v 73, .v 74, .v 75, .v 76, .v 77, .v 78, .v 79]) (by kernel_rfl) fun ρ hρ hd => ?_
  simp only [D_nil, D_add, D_sub, D_mul, D_and, D_or, D_xor, D_shl, D_shr, D_andNot, D_quo, D_rem, D_add_i64, D_sub_i64, D_mul_i64, D_add_u32, D_sub_u32, D_mul_u32, D_add_u8, D_sub_u8, D_mul_u8, D_eql, D_neq, D_lss, D_leq, D_gtr, D_geq, D_not, D_conv, D_eqs, D_call, D_cond, D_need, D_idx, D_sel, D_upd, D_shv, D_beq, List.map_cons, List.map_nil, Ref.den] at hd
  obtain ⟨h0, h32, h48, h64, -⟩ := hd
  have s0 : seg ρ 0 32 = dg 256 32 (-121665 % PP) := seg_of h0 (dg_len _ _ _)
  have i := in_ff (dg_len 256 32 (-121665 % PP)) (dg_dig (by decide) _ _)
  have s32 : seg ρ 32 16 = pairs16 (seg ρ 0 32) := seg_of h32 (by rw [s0]; exact i.1.len)
  have s48 : seg ρ 48 16 = powF kF (PP - 2) 256 := seg_of h48 (powF_ff kF_ff _ _).len
  rw [s0] at s32
  have s64 : seg ρ 64 16 = mulF (seg ρ 32 16) (seg ρ 48 16) := seg_of h64 (by rw [s32, s48]; exact (mulF_ok i.1 (powF_ff kF_ff _ _)).1.len)
  refine ⟨by simp only [G_nil, G_bin, G_cmp, G_not, G_conv, G_eqs, G_call, G_cond, G_need, G_idx, G_sel, G_upd, G_shv, G_beq, List.map_cons, List.map_nil, Ref.den]; exact ⟨trivial, trivial, kF_ff, ⟨(by show FF (seg ρ 32 16); rw [s32]; exact i.1), (by show FF (seg ρ 48 16); rw [s48]; exact powF_ff kF_ff _ _)⟩, trivial⟩, ?_⟩
  show seg ρ 64 16 = dL
  rw [s64, s32, s48, dL]
def cHAdd : Ctr := ⟨44, 121, [.arr .i64 64, .arr .i64 64, .arr .i64 16], [.arr .i64 64]⟩
theorem seg3 {ρ : Nat → Int} {a b c : List Int} {n m k : Nat} (la : a.length = n) (lb : b.length = m) (lc : c.length = k) (hρ : ∀ i, i < n + m + k → ρ i = flat [a, b, c] i) : seg ρ 0 n = a ∧ seg ρ n m = b ∧ seg ρ (n + m) k = c := by
  refine ⟨seg_of (fun i hi => ?_) la, seg_of (fun i hi => ?_) lb, seg_of (fun i hi => ?_) lc⟩
  · rw [Nat.zero_add, hρ i (by omega)]
    simp only [flat, List.flatten_cons, List.flatten_nil, List.append_nil, List.getD_eq_getElem?_getD]
    rw [List.getElem?_append_left (by omega)]
  · rw [hρ (n + i) (by omega)]
    simp only [flat, List.flatten_cons, List.flatten_nil, List.append_nil, List.getD_eq_getElem?_getD]
    rw [List.getElem?_append_right (by omega), List.getElem?_append_left (by omega)]
    congr 2; omega
  · rw [hρ (n + m + i) (by omega)]
    simp only [flat, List.flatten_cons, List.flatten_nil, List.append_nil, List.getD_eq_getElem?_getD]
    rw [List.getElem?_append_right (by omega), List.getElem?_append_right (by omega)]
    congr 2; omega
theorem okHAdd : CtrOK Try.prog hfns cHAdd := by
  refine CtrOK.of okHT1 mixed (lf := 300) (d := 5) rfl fun w vs xs ha hpre => ?_
  obtain ⟨v, u, z, a, b, c, rfl, rfl, ⟨la, -, ia⟩, ⟨lb, -, ib⟩, ⟨lc, -, ic⟩⟩ := open3 ha
  obtain ⟨pa', pb, fc', -⟩ : PF a ∧ PF b ∧ FF c ∧ dv 65536 c % PP = DD % PP := hpre
  rw [show hfns.g cHAdd.j [a, b, c] = addF a b c from rfl]
  refine Go.Sx.Way.of (dec := []) (fs := [.need 54 [[.v 16, .v 17, .v 18, .v 19, .v 20, .v 21, .v 22, .v 23, .v 24, .v 25, .v 26, .v 27, .v 28, .v 29, .v 30, .v 31], [.v 0, .v 1, .v 2, .v 3, .v 4, .v 5, .v 6, .v 7, .v 8, .v 9, .v 10, .v 11, .v 12, .v 13, .v 14, .v 15]], .call 144 54 [[.v 16, .v 17, .v 18, .v 19, .v 20, .v 21, .v 22, .v 23, .v 24, .v 25, .v 26, .v 27, .v 28, .v 29, .v 30, .v 31], [.v 0, .v 1, .v 2, .v 3, .v 4, .v 5, .v 6, .v 7, .v 8, .v 9, .v 10, .v 11, .v 12, .v 13, .v 14, .v 15]] 16, .need 54 [[.v 80, .v 81, .v 82, .v 83, .v 84, .v 85, .v 86, .v 87, .v 88, .v 89, .v 90, .v 91, .v 92, .v 93, .v 94, .v 95], [.v 64, .v 65, .v 66, .v 67, .v 68, .v 69, .v 70, .v 71, .v 72, .v 73, .v 74, .v 75, .v 76, .v 77, .v 78, .v 79]], .call 160 54 [[.v 80, .v 81, .v 82, .v 83, .v 84, .v 85, .v 86, .v 87, .v 88, .v 89, .v 90, .v 91, .v 92, .v 93, .v 94, .v 95], [.v 64, .v 65, .v 66, .v 67, .v 68, .v 69, .v 70, .v 71, .v 72, .v 73, .v 74, .v 75, .v 76, .v 77, .v 78, .v 79]] 16, .need 55 [[.v 144, .v 145, .v 146, .v 147, .v 148, .v 149, .v 150, .v 151, .v 152, .v 153, .v 154, .v 155, .v 156, .v 157, .v 158, .v 159], [.v 160, .v 161, .v 162, .v 163, .v 164, .v 165, .v 166, .v 167, .v 168, .v 169, .v 170, .v 171, .v 172, .v 173, .v 174, .v 175]], .call 176 55 [[.v 144, .v 145, .v 146, .v 147, .v 148, .v 149, .v 150, .v 151, .v 152, .v 153, .v 154, .v 155, .v 156, .v 157, .v 158, .v 159], [.v 160, .v 161, .v 162, .v 163, .v 164, .v 165, .v 166, .v 167, .v 168, .v 169, .v 170, .v 171, .v 172, .v 173, .v 174, .v 175]] 16, .need 53 [[.v 0, .v 1, .v 2, .v 3, .v 4, .v 5, .v 6, .v 7, .v 8, .v 9, .v 10, .v 11, .v 12, .v 13, .v 14, .v 15], [.v 16, .v 17, .v 18, .v 19, .v 20, .v 21, .v 22, .v 23, .v 24, .v 25, .v 26, .v 27, .v 28, .v 29, .v 30, .v 31]], .call 192 53 [[.v 0, .v 1, .v 2, .v 3, .v 4, .v 5, .v 6, .v 7, .v 8, .v 9, .v 10, .v 11, .v 12, .v 13, .v 14, .v 15], [.v 16, .v 17, .v 18, .v 19, .v 20, .v 21, .v 22, .v 23, .v 24, .v 25, .v 26, .v 27, .v 28, .v 29, .v 30, .v 31]] 16, .need 53 [[.v 64, .v 65, .v 66, .v 67, .v 68, .v 69, .v 70, .v 71, .v 72, .v 73, .v 74, .v 75, .v 76, .v 77, .v 78, .v 79], [.v 80, .v 81, .v 82, .v 83, .v 84, .v 85, .v 86, .v 87, .v 88, .v 89, .v 90, .v 91, .v 92, .v 93, .v 94, .v 95]], .call 208 53 [[.v 64, .v 65, .v 66, .v 67, .v 68, .v 69, .v 70, .v 71, .v 72, .v 73, .v 74, .v 75, .v 76, .v 77, .v 78, .v 79], [.v 80, .v 81, .v 82, .v 83, .v 84, .v 85, .v 86, .v 87, .v 88, .v 89, .v 90, .v 91, .v 92, .v 93, .v 94, .v 95]] 16, .need 55 [[.v 192, .v 193, .v 194, .v 195, .v 196, .v 197, .v 198, .v 199, .v 200, .v 201, .v 202, .v 203, .v 204, .v 205, .v 206, .v 207], [.v 208, .v 209, .v 210, .v 211, .v 212, .v 213, .v 214, .v 215, .v 216, .v 217, .v 218, .v 219, .v 220, .v 221, .v 222, .v 223]], .call 224 55 [[.v 192, .v 193, .v 194, .v 195, .v 196, .v 197, .v 198, .v 199, .v 200, .v 201, .v 202, .v 203, .v 204, .v 205, .v 206, .v 207], [.v 208, .v 209, .v 210, .v 211, .v 212, .v 213, .v 214, .v 215, .v 216, .v 217, .v 218, .v 219, .v 220, .v 221, .v 222, .v 223]] 16, .need 55 [[.v 48, .v 49, .v 50, .v 51, .v 52, .v 53, .v 54, .v 55, .v 56, .v 57, .v 58, .v 59, .v 60, .v 61, .v 62, .v 63], [.v 112, .v 113, .v 114, .v 115, .v 116, .v 117, .v 118, .v 119, .v 120, .v 121, .v 122, .v 123, .v 124, .v 125, .v 126, .v 127]], .call 240 55 [[.v 48, .v 49, .v 50, .v 51, .v 52, .v 53, .v 54, .v 55, .v 56, .v 57, .v 58, .v 59, .v 60, .v 61, .v 62, .v 63], [.v 112, .v 113, .v 114, .v 115, .v 116, .v 117, .v 118, .v 119, .v 120, .v 121, .v 122, .v 123, .v 124, .v 125, .v 126, .v 127]] 16, .need 53 [[.v 128, .v 129, .v 130, .v 131, .v 132, .v 133, .v 134, .v 135, .v 136, .v 137, .v 138, .v 139, .v 140, .v 141, .v 142, .v 143], [.v 128, .v 129, .v 130, .v 131, .v 132, .v 133, .v 134, .v 135, .v 136, .v 137, .v 138, .v 139, .v 140, .v 141, .v 142, .v 143]], .call 256 53 [[.v 128, .v 129, .v 130, .v 131, .v 132, .v 133, .v 134, .v 135, .v 136, .v 137, .v 138, .v 139, .v 140, .v 141, .v 142, .v 143], [.v 128, .v 129, .v 130, .v 131, .v 132, .v 133, .v 134, .v 135, .v 136, .v 137, .v 138, .v 139, .v 140, .v 141, .v 142, .v 143]] 16, .need 55 [[.v 240, .v 241, .v 242, .v 243, .v 244, .v 245, .v 246, .v 247, .v 248, .v 249, .v 250, .v 251, .v 252, .v 253, .v 254, .v 255], [.v 256, .v 257, .v 258, .v 259, .v 260, .v 261, .v 262, .v 263, .v 264, .v 265, .v 266, .v 267, .v 268, .v 269, .v 270, .v 271]], .call 272 55 [[.v 240, .v 241, .v 242, .v 243, .v 244, .v 245, .v 246, .v 247, .v 248, .v 249, .v 250, .v 251, .v 252, .v 253, .v 254, .v 255], [.v 256, .v 257, .v 258, .v 259, .v 260, .v 261, .v 262, .v 263, .v 264, .v 265, .v 266, .v 267, .v 268, .v 269, .v 270, .v 271]] 16, .need 55 [[.v 32, .v 33, .v 34, .v 35, .v 36, .v 37, .v 38, .v 39, .v 40, .v 41, .v 42, .v 43, .v 44, .v 45, .v 46, .v 47], [.v 96, .v 97, .v 98, .v 99, .v 100, .v 101, .v 102, .v 103, .v 104, .v 105, .v 106, .v 107, .v 108, .v 109, .v 110, .v 111]], .call 288 55 [[.v 32, .v 33, .v 34, .v 35, .v 36, .v 37, .v 38, .v 39, .v 40, .v 41, .v 42, .v 43, .v 44, .v 45, .v 46, .v 47], [.v 96, .v 97, .v 98, .v 99, .v 100, .v 101, .v 102, .v 103, .v 104, .v 105, .v 106, .v 107, .v 108, .v 109, .v 110, .v 111]] 16, .need 53 [[.v 288, .v 289, .v 290, .v 291, .v 292, .v 293, .v 294, .v 295, .v 296, .v 297, .v 298, .v 299, .v 300, .v 301, .v 302, .v 303], [.v 288, .v 289, .v 290, .v 291, .v 292, .v 293, .v 294, .v 295, .v 296, .v 297, .v 298, .v 299, .v 300, .v 301, .v 302, .v 303]], .call 304 53 [[.v 288, .v 289, .v 290, .v 291, .v 292, .v 293, .v 294, .v 295, .v 296, .v 297, .v 298, .v 299, .v 300, .v 301, .v 302, .v 303], [.v 288, .v 289, .v 290, .v 291, .v 292, .v 293, .v 294, .v 295, .v 296, .v 297, .v 298, .v 299, .v 300, .v 301, .v 302, .v 303]] 16, .need 54 [[.v 224, .v 225, .v 226, .v 227, .v 228, .v 229, .v 230, .v 231, .v 232, .v 233, .v 234, .v 235, .v 236, .v 237, .v 238, .v 239], [.v 176, .v 177, .v 178, .v 179, .v 180, .v 181, .v 182, .v 183, .v 184, .v 185, .v 186, .v 187, .v 188, .v 189, .v 190, .v 191]], .call 320 54 [[.v 224, .v 225, .v 226, .v 227, .v 228, .v 229, .v 230, .v 231, .v 232, .v 233, .v 234, .v 235, .v 236, .v 237, .v 238, .v 239], [.v 176, .v 177, .v 178, .v 179, .v 180, .v 181, .v 182, .v 183, .v 184, .v 185, .v 186, .v 187, .v 188, .v 189, .v 190, .v 191]] 16, .need 54 [[.v 304, .v 305, .v 306, .v 307, .v 308, .v 309, .v 310, .v 311, .v 312, .v 313, .v 314, .v 315, .v 316, .v 317, .v 318, .v 319], [.v 272, .v 273, .v 274, .v 275, .v 276, .v 277, .v 278, .v 279, .v 280, .v 281, .v 282, .v 283, .v 284, .v 285, .v 286, .v 287]], .call 336 54 [[.v 304, .v 305, .v 306, .v 307, .v 308, .v 309, .v 310, .v 311, .v 312, .v 313, .v 314, .v 315, .v 316, .v 317, .v 318, .v 319], [.v 272, .v 273, .v 274, .v 275, .v 276, .v 277, .v 278, .v 279, .v 280, .v 281, .v 282, .v 283, .v 284, .v 285, .v 286, .v 287]] 16, .need 53 [[.v 304, .v 305, .v 306, .v 307, .v 308, .v 309, .v 310, .v 311, .v 312, .v 313, .v 314, .v 315, .v 316, .v 317, .v 318, .v 319], [.v 272, .v 273, .v 274, .v 275, .v 276, .v 277, .v 278, .v 279, .v 280, .v 281, .v 282, .v 283, .v 284, .v 285, .v 286, .v 287]], .call 352 53 [[.v 304, .v 305, .v 306, .v 307, .v 308, .v 309, .v 310, .v 311, .v 312, .v 313, .v 314, .v 315, .v 316, .v 317, .v 318, .v 319], [.v 272, .v 273, .v 274, .v 275, .v 276, .v 277, .v 278, .v 279, .v 280, .v 281, .v 282, .v 283, .v 284, .v 285, .v 286, .v 287]] 16, .need 53 [[.v 224, .v 225, .v 226, .v 227, .v 228, .v 229, .v 230, .v 231, .v 232, .v 233, .v 234, .v 235, .v 236, .v 237, .v 238, .v 239], [.v 176, .v 177, .v 178, .v 179, .v 180, .v 181, .v 182, .v 183, .v 184, .v 185, .v 186, .v 187, .v 188, .v 189, .v 190, .v 191]], .call 368 53 [[.v 224, .v 225, .v 226, .v 227, .v 228, .v 229, .v 230, .v 231, .v 232, .v 233, .v 234, .v 235, .v 236, .v 237, .v 238, .v 239], [.v 176, .v 177, .v 178, .v 179, .v 180, .v 181, .v 182, .v 183, .v 184, .v 185, .v 186, .v 187, .v 188, .v 189, .v 190, .v 191]] 16, .need 55 [[.v 320, .v 321, .v 322, .v 323, .v 324, .v 325, .v 326, .v 327, .v 328, .v 329, .v 330, .v 331, .v 332, .v 333, .v 334, .v 335], [.v 336, .v 337, .v 338, .v 339, .v 340, .v 341, .v 342, .v 343, .v 344, .v 345, .v 346, .v 347, .v 348, .v 349, .v 350, .v 351]], .call 384 55 [[.v 320, .v 321, .v 322, .v 323, .v 324, .v 325, .v 326, .v 327, .v 328, .v 329, .v 330, .v 331, .v 332, .v 333, .v 334, .v 335], [.v 336, .v 337, .v 338, .v 339, .v 340, .v 341, .v 342, .v 343, .v 344, .v 345, .v 346, .v 347, .v 348, .v 349, .v 350, .v 351]] 16, .need 55 [[.v 368, .v 369, .v 370, .v 371, .v 372, .v 373, .v 374, .v 375, .v 376, .v 377, .v 378, .v 379, .v 380, .v 381, .v 382, .v 383], [.v 352, .v 353, .v 354, .v 355, .v 356, .v 357, .v 358, .v 359, .v 360, .v 361, .v 362, .v 363, .v 364, .v 365, .v 366, .v 367]], .call 400 55 [[.v 368, .v 369, .v 370, .v 371, .v 372, .v 373, .v 374, .v 375, .v 376, .v 377, .v 378, .v 379, .v 380, .v 381, .v 382, .v 383], [.v 352, .v 353, .v 354, .v 355, .v 356, .v 357, .v 358, .v 359, .v 360, .v 361, .v 362, .v 363, .v 364, .v 365, .v 366, .v 367]] 16, .need 55 [[.v 352, .v 353, .v 354, .v 355, .v 356, .v 357, .v 358, .v 359, .v 360, .v 361, .v 362, .v 363, .v 364, .v 365, .v 366, .v 367], [.v 336, .v 337, .v 338, .v 339, .v 340, .v 341, .v 342, .v 343, .v 344, .v 345, .v 346, .v 347, .v 348, .v 349, .v 350, .v 351]], .call 416 55 [[.v 352, .v 353, .v 354, .v 355, .v 356, .v 357, .v 358, .v 359, .v 360, .v 361, .v 362, .v 363, .v 364, .v 365, .v 366, .v 367], [.v 336, .v 337, .v 338, .v 339, .v 340, .v 341, .v 342, .v 343, .v 344, .v 345, .v 346, .v 347, .v 348, .v 349, .v 350, .v 351]] 16, .need 55 [[.v 320, .v 321, .v 322, .v 323, .v 324, .v 325, .v 326, .v 327, .v 328, .v 329, .v 330, .v 331, .v 332, .v 333, .v 334, .v 335], [.v 368, .v 369, .v 370, .v 371, .v 372, .v 373, .v 374, .v 375, .v 376, .v 377, .v 378, .v 379, .v 380, .v 381, .v 382, .v 383]], .call 432 55 [[.v 320, .v 321, .v 322, .v 323, .v 324, .v 325, .v 326, .v 327, .v 328, .v 329, .v 330, .v 331, .v 332, .v 333, .v 334, .v 335], [.v 368, .v 369, .v 370, .v 371, .v 372, .v 373, .v 374, .v 375, .v 376, .v 377, .v 378, .v 379, .v 380, .v 381, .v 382, .v 383]] 16]) (refs := [.v 384, .v 385, .v 386, .v 387, .v 388, .v 389, .v 390, .v 391, .v 392, .v 393, .v 394, .v 395, .v 396, .v 397, .v 398, .v 399, .v 400, .v 401, .v 402, .v 403, .v 404, .v 405, .v 406, .v 407, .v 408, .v 409, .v 410, .v 411, .v 412, .v 413, .v 414, .v 415, .v 416, .v 417, .v 418, .v 419, .v 420, .v 421, .v 422, .v 423, .v 424, .v 425, .v 426, .v 427, .v 428, .v 429, .v 430, .v 431, .v 432, .v 433, .v 434, .v 435, .v 436, .v 437, .v 438, .v 439, .v 440, .v 441, .v 442, .v 443, .v 444, .v 445, .v 446, .v 447]) (by kernel_rfl) fun ρ hρ hd => ?_
  obtain ⟨ea, eb, ec⟩ := seg3 la lb lc hρ
  have g0 : seg ρ 0 16 = pX a := by rw [← ea]; rfl
  have g16 : seg ρ 16 16 = pY a := by rw [← ea]; rfl
  have g32 : seg ρ 32 16 = pZ a := by rw [← ea]; rfl
  have g48 : seg ρ 48 16 = pT a := by rw [← ea]; rfl
  have g64 : seg ρ 64 16 = pX b := by rw [← eb]; rfl
  have g80 : seg ρ 80 16 = pY b := by rw [← eb]; rfl
  have g96 : seg ρ 96 16 = pZ b := by rw [← eb]; rfl
  have g112 : seg ρ 112 16 = pT b := by rw [← eb]; rfl
  have g128 : seg ρ 128 16 = c := ec
  have f0 : FF (seg ρ 0 16) := by rw [g0]; exact pa'.x
  have f16 : FF (seg ρ 16 16) := by rw [g16]; exact pa'.y
  have f32 : FF (seg ρ 32 16) := by rw [g32]; exact pa'.z
  have f48 : FF (seg ρ 48 16) := by rw [g48]; exact pa'.t
  have f64 : FF (seg ρ 64 16) := by rw [g64]; exact pb.x
  have f80 : FF (seg ρ 80 16) := by rw [g80]; exact pb.y
  have f96 : FF (seg ρ 96 16) := by rw [g96]; exact pb.z
  have f112 : FF (seg ρ 112 16) := by rw [g112]; exact pb.t
  have f128 : FF (seg ρ 128 16) := by rw [g128]; exact fc'
  simp only [D_nil, D_add, D_sub, D_mul, D_and, D_or, D_xor, D_shl, D_shr, D_andNot, D_quo, D_rem, D_add_i64, D_sub_i64, D_mul_i64, D_add_u32, D_sub_u32, D_mul_u32, D_add_u8, D_sub_u8, D_mul_u8, D_eql, D_neq, D_lss, D_leq, D_gtr, D_geq, D_not, D_conv, D_eqs, D_call, D_cond, D_need, D_idx, D_sel, D_upd, D_shv, D_beq, List.map_cons, List.map_nil, Ref.den] at hd
  obtain ⟨h144, h160, h176, h192, h208, h224, h240, h256, h272, h288, h304, h320, h336, h352, h368, h384, h400, h416, h432, -⟩ := hd
  have s144 : seg ρ 144 16 = minF (seg ρ 16 16) (seg ρ 0 16) := seg_of h144 (minF_ok f16 f0).1.len
  have f144 : FF (seg ρ 144 16) := by rw [s144]; exact (minF_ok f16 f0).1
  have s160 : seg ρ 160 16 = minF (seg ρ 80 16) (seg ρ 64 16) := seg_of h160 (minF_ok f80 f64).1.len
  have f160 : FF (seg ρ 160 16) := by rw [s160]; exact (minF_ok f80 f64).1
  have s176 : seg ρ 176 16 = mulF (seg ρ 144 16) (seg ρ 160 16) := seg_of h176 (mulF_ok f144 f160).1.len
  have f176 : FF (seg ρ 176 16) := by rw [s176]; exact (mulF_ok f144 f160).1
  have s192 : seg ρ 192 16 = plusF (seg ρ 0 16) (seg ρ 16 16) := seg_of h192 (plusF_ok f0 f16).1.len
  have f192 : FF (seg ρ 192 16) := by rw [s192]; exact (plusF_ok f0 f16).1
  have s208 : seg ρ 208 16 = plusF (seg ρ 64 16) (seg ρ 80 16) := seg_of h208 (plusF_ok f64 f80).1.len
  have f208 : FF (seg ρ 208 16) := by rw [s208]; exact (plusF_ok f64 f80).1
  have s224 : seg ρ 224 16 = mulF (seg ρ 192 16) (seg ρ 208 16) := seg_of h224 (mulF_ok f192 f208).1.len
  have f224 : FF (seg ρ 224 16) := by rw [s224]; exact (mulF_ok f192 f208).1
  have s240 : seg ρ 240 16 = mulF (seg ρ 48 16) (seg ρ 112 16) := seg_of h240 (mulF_ok f48 f112).1.len
  have f240 : FF (seg ρ 240 16) := by rw [s240]; exact (mulF_ok f48 f112).1
  have s256 : seg ρ 256 16 = plusF (seg ρ 128 16) (seg ρ 128 16) := seg_of h256 (plusF_ok f128 f128).1.len
  have f256 : FF (seg ρ 256 16) := by rw [s256]; exact (plusF_ok f128 f128).1
  have s272 : seg ρ 272 16 = mulF (seg ρ 240 16) (seg ρ 256 16) := seg_of h272 (mulF_ok f240 f256).1.len
  have f272 : FF (seg ρ 272 16) := by rw [s272]; exact (mulF_ok f240 f256).1
  have s288 : seg ρ 288 16 = mulF (seg ρ 32 16) (seg ρ 96 16) := seg_of h288 (mulF_ok f32 f96).1.len
  have f288 : FF (seg ρ 288 16) := by rw [s288]; exact (mulF_ok f32 f96).1
  have s304 : seg ρ 304 16 = plusF (seg ρ 288 16) (seg ρ 288 16) := seg_of h304 (plusF_ok f288 f288).1.len
  have f304 : FF (seg ρ 304 16) := by rw [s304]; exact (plusF_ok f288 f288).1
  have s320 : seg ρ 320 16 = minF (seg ρ 224 16) (seg ρ 176 16) := seg_of h320 (minF_ok f224 f176).1.len
  have f320 : FF (seg ρ 320 16) := by rw [s320]; exact (minF_ok f224 f176).1
  have s336 : seg ρ 336 16 = minF (seg ρ 304 16) (seg ρ 272 16) := seg_of h336 (minF_ok f304 f272).1.len
  have f336 : FF (seg ρ 336 16) := by rw [s336]; exact (minF_ok f304 f272).1
  have s352 : seg ρ 352 16 = plusF (seg ρ 304 16) (seg ρ 272 16) := seg_of h352 (plusF_ok f304 f272).1.len
  have f352 : FF (seg ρ 352 16) := by rw [s352]; exact (plusF_ok f304 f272).1
  have s368 : seg ρ 368 16 = plusF (seg ρ 224 16) (seg ρ 176 16) := seg_of h368 (plusF_ok f224 f176).1.len
  have f368 : FF (seg ρ 368 16) := by rw [s368]; exact (plusF_ok f224 f176).1
  have s384 : seg ρ 384 16 = mulF (seg ρ 320 16) (seg ρ 336 16) := seg_of h384 (mulF_ok f320 f336).1.len
  have f384 : FF (seg ρ 384 16) := by rw [s384]; exact (mulF_ok f320 f336).1
  have s400 : seg ρ 400 16 = mulF (seg ρ 368 16) (seg ρ 352 16) := seg_of h400 (mulF_ok f368 f352).1.len
  have f400 : FF (seg ρ 400 16) := by rw [s400]; exact (mulF_ok f368 f352).1
  have s416 : seg ρ 416 16 = mulF (seg ρ 352 16) (seg ρ 336 16) := seg_of h416 (mulF_ok f352 f336).1.len
  have f416 : FF (seg ρ 416 16) := by rw [s416]; exact (mulF_ok f352 f336).1
  have s432 : seg ρ 432 16 = mulF (seg ρ 320 16) (seg ρ 368 16) := seg_of h432 (mulF_ok f320 f368).1.len
  have f432 : FF (seg ρ 432 16) := by rw [s432]; exact (mulF_ok f320 f368).1
  refine ⟨by simp only [G_nil, G_bin, G_cmp, G_not, G_conv, G_eqs, G_call, G_cond, G_need, G_idx, G_sel, G_upd, G_shv, G_beq, List.map_cons, List.map_nil, Ref.den]; exact ⟨⟨f16, f0⟩, ⟨f80, f64⟩, ⟨f144, f160⟩, ⟨f0, f16⟩, ⟨f64, f80⟩, ⟨f192, f208⟩, ⟨f48, f112⟩, ⟨f128, f128⟩, ⟨f240, f256⟩, ⟨f32, f96⟩, ⟨f288, f288⟩, ⟨f224, f176⟩, ⟨f304, f272⟩, ⟨f304, f272⟩, ⟨f224, f176⟩, ⟨f320, f336⟩, ⟨f368, f352⟩, ⟨f352, f336⟩, ⟨f320, f368⟩, trivial⟩, ?_⟩
  show seg ρ 384 16 ++ (seg ρ 400 16 ++ (seg ρ 416 16 ++ seg ρ 432 16)) = addF a b c
  rw [s432, s416, s400, s384, s368, s352, s336, s320, s304, s288, s272, s256, s240, s224, s208, s192, s176, s160, s144, g0, g16, g32, g48, g64, g80, g96, g112, g128]
  rfl
def HT2 : List Ctr := cHD :: cHAdd :: HT1
theorem okHT2 : ∀ c ∈ HT2, CtrOK Try.prog hfns c := by
  intro c hc
  rcases List.mem_cons.1 hc with rfl | hc
  · exact okHD
  rcases List.mem_cons.1 hc with rfl | hc
  · exact okHAdd
  · exact okHT1 c hc
end Go.Proofs.Ytfobnajgnnccmaa

namespace Go.Proofs.Ytfobnajgnnccmaa
open Go.RowKit Go.Bx Go.Sx
set_option linter.unusedSimpArgs false
set_option linter.unusedVariables false
set_option maxRecDepth 100000
def cHMul : Ctr := ⟨50, 122, [.arr .u8 32, .arr .i64 64], [.arr .i64 64]⟩
noncomputable def hmT : LoopT := ⟨[.any, .any, .c (.ptr 0 0), .c (.ptr 1 0), .c (.ptr 2 0), .c (.ptr 3 0), .c (.ptr 4 0), .c (.int .i64 (.v 0)), .any, .any, .any, .any, .any, .any, .any, .any, .any, .any, .any, .any, .any, .any, .any, .any, .any, .any, .any, .any, .any, .any, .any, .any, .any], [some ⟨26, [.int .u8 (.v 1), .int .u8 (.v 2), .int .u8 (.v 3), .int .u8 (.v 4), .int .u8 (.v 5), .int .u8 (.v 6), .int .u8 (.v 7), .int .u8 (.v 8), .int .u8 (.v 9), .int .u8 (.v 10), .int .u8 (.v 11), .int .u8 (.v 12), .int .u8 (.v 13), .int .u8 (.v 14), .int .u8 (.v 15), .int .u8 (.v 16), .int .u8 (.v 17), .int .u8 (.v 18), .int .u8 (.v 19), .int .u8 (.v 20), .int .u8 (.v 21), .int .u8 (.v 22), .int .u8 (.v 23), .int .u8 (.v 24), .int .u8 (.v 25), .int .u8 (.v 26), .int .u8 (.v 27), .int .u8 (.v 28), .int .u8 (.v 29), .int .u8 (.v 30), .int .u8 (.v 31), .int .u8 (.v 32)]⟩, some ⟨67, [.int .i64 (.v 33), .int .i64 (.v 34), .int .i64 (.v 35), .int .i64 (.v 36), .int .i64 (.v 37), .int .i64 (.v 38), .int .i64 (.v 39), .int .i64 (.v 40), .int .i64 (.v 41), .int .i64 (.v 42), .int .i64 (.v 43), .int .i64 (.v 44), .int .i64 (.v 45), .int .i64 (.v 46), .int .i64 (.v 47), .int .i64 (.v 48), .int .i64 (.v 49), .int .i64 (.v 50), .int .i64 (.v 51), .int .i64 (.v 52), .int .i64 (.v 53), .int .i64 (.v 54), .int .i64 (.v 55), .int .i64 (.v 56), .int .i64 (.v 57), .int .i64 (.v 58), .int .i64 (.v 59), .int .i64 (.v 60), .int .i64 (.v 61), .int .i64 (.v 62), .int .i64 (.v 63), .int .i64 (.v 64), .int .i64 (.v 65), .int .i64 (.v 66), .int .i64 (.v 67), .int .i64 (.v 68), .int .i64 (.v 69), .int .i64 (.v 70), .int .i64 (.v 71), .int .i64 (.v 72), .int .i64 (.v 73), .int .i64 (.v 74), .int .i64 (.v 75), .int .i64 (.v 76), .int .i64 (.v 77), .int .i64 (.v 78), .int .i64 (.v 79), .int .i64 (.v 80), .int .i64 (.v 81), .int .i64 (.v 82), .int .i64 (.v 83), .int .i64 (.v 84), .int .i64 (.v 85), .int .i64 (.v 86), .int .i64 (.v 87), .int .i64 (.v 88), .int .i64 (.v 89), .int .i64 (.v 90), .int .i64 (.v 91), .int .i64 (.v 92), .int .i64 (.v 93), .int .i64 (.v 94), .int .i64 (.v 95), .int .i64 (.v 96)]⟩, some ⟨67, [.int .i64 (.l 0), .int .i64 (.l 0), .int .i64 (.l 0), .int .i64 (.l 0), .int .i64 (.l 0), .int .i64 (.l 0), .int .i64 (.l 0), .int .i64 (.l 0), .int .i64 (.l 0), .int .i64 (.l 0), .int .i64 (.l 0), .int .i64 (.l 0), .int .i64 (.l 0), .int .i64 (.l 0), .int .i64 (.l 0), .int .i64 (.l 0), .int .i64 (.l 0), .int .i64 (.l 0), .int .i64 (.l 0), .int .i64 (.l 0), .int .i64 (.l 0), .int .i64 (.l 0), .int .i64 (.l 0), .int .i64 (.l 0), .int .i64 (.l 0), .int .i64 (.l 0), .int .i64 (.l 0), .int .i64 (.l 0), .int .i64 (.l 0), .int .i64 (.l 0), .int .i64 (.l 0), .int .i64 (.l 0), .int .i64 (.l 0), .int .i64 (.l 0), .int .i64 (.l 0), .int .i64 (.l 0), .int .i64 (.l 0), .int .i64 (.l 0), .int .i64 (.l 0), .int .i64 (.l 0), .int .i64 (.l 0), .int .i64 (.l 0), .int .i64 (.l 0), .int .i64 (.l 0), .int .i64 (.l 0), .int .i64 (.l 0), .int .i64 (.l 0), .int .i64 (.l 0), .int .i64 (.l 0), .int .i64 (.l 0), .int .i64 (.l 0), .int .i64 (.l 0), .int .i64 (.l 0), .int .i64 (.l 0), .int .i64 (.l 0), .int .i64 (.l 0), .int .i64 (.l 0), .int .i64 (.l 0), .int .i64 (.l 0), .int .i64 (.l 0), .int .i64 (.l 0), .int .i64 (.l 0), .int .i64 (.l 0), .int .i64 (.l 0)]⟩, some ⟨65, [.int .i64 (.v 97), .int .i64 (.v 98), .int .i64 (.v 99), .int .i64 (.v 100), .int .i64 (.v 101), .int .i64 (.v 102), .int .i64 (.v 103), .int .i64 (.v 104), .int .i64 (.v 105), .int .i64 (.v 106), .int .i64 (.v 107), .int .i64 (.v 108), .int .i64 (.v 109), .int .i64 (.v 110), .int .i64 (.v 111), .int .i64 (.v 112)]⟩, some ⟨67, [.int .i64 (.v 113), .int .i64 (.v 114), .int .i64 (.v 115), .int .i64 (.v 116), .int .i64 (.v 117), .int .i64 (.v 118), .int .i64 (.v 119), .int .i64 (.v 120), .int .i64 (.v 121), .int .i64 (.v 122), .int .i64 (.v 123), .int .i64 (.v 124), .int .i64 (.v 125), .int .i64 (.v 126), .int .i64 (.v 127), .int .i64 (.v 128), .int .i64 (.v 129), .int .i64 (.v 130), .int .i64 (.v 131), .int .i64 (.v 132), .int .i64 (.v 133), .int .i64 (.v 134), .int .i64 (.v 135), .int .i64 (.v 136), .int .i64 (.v 137), .int .i64 (.v 138), .int .i64 (.v 139), .int .i64 (.v 140), .int .i64 (.v 141), .int .i64 (.v 142), .int .i64 (.v 143), .int .i64 (.v 144), .int .i64 (.v 145), .int .i64 (.v 146), .int .i64 (.v 147), .int .i64 (.v 148), .int .i64 (.v 149), .int .i64 (.v 150), .int .i64 (.v 151), .int .i64 (.v 152), .int .i64 (.v 153), .int .i64 (.v 154), .int .i64 (.v 155), .int .i64 (.v 156), .int .i64 (.v 157), .int .i64 (.v 158), .int .i64 (.v 159), .int .i64 (.v 160), .int .i64 (.v 161), .int .i64 (.v 162), .int .i64 (.v 163), .int .i64 (.v 164), .int .i64 (.v 165), .int .i64 (.v 166), .int .i64 (.v 167), .int .i64 (.v 168), .int .i64 (.v 169), .int .i64 (.v 170), .int .i64 (.v 171), .int .i64 (.v 172), .int .i64 (.v 173), .int .i64 (.v 174), .int .i64 (.v 175), .int .i64 (.v 176)]⟩], 177, 130, 0, [.l 255, .v 0, .v 1, .v 2, .v 3, .v 4, .v 5, .v 6, .v 7, .v 8, .v 9, .v 10, .v 11, .v 12, .v 13, .v 14, .v 15, .v 16, .v 17, .v 18, .v 19, .v 20, .v 21, .v 22, .v 23, .v 24, .v 25, .v 26, .v 27, .v 28, .v 29, .v 30, .v 31, .v 32, .v 33, .v 34, .v 35, .v 36, .v 37, .v 38, .v 39, .v 40, .v 41, .v 42, .v 43, .v 44, .v 45, .v 46, .v 47, .v 48, .v 49, .v 50, .v 51, .v 52, .v 53, .v 54, .v 55, .v 56, .v 57, .v 58, .v 59, .v 60, .v 61, .v 62, .v 63, .v 64, .v 65, .v 66, .v 67, .v 68, .v 69, .v 70, .v 71, .v 72, .v 73, .v 74, .v 75, .v 76, .v 77, .v 78, .v 79, .v 80, .v 81, .v 82, .v 83, .v 84, .v 85, .v 86, .v 87, .v 88, .v 89, .v 90, .v 91, .v 92, .v 93, .v 94, .v 95, .v 96, .v 97, .v 98, .v 99, .v 100, .v 101, .v 102, .v 103, .v 104, .v 105, .v 106, .v 107, .v 108, .v 109, .v 110, .v 111, .l 0, .l 0, .l 0, .l 0, .l 0, .l 0, .l 0, .l 0, .l 0, .l 0, .l 0, .l 0, .l 0, .l 0, .l 0, .l 0, .l 1, .l 0, .l 0, .l 0, .l 0, .l 0, .l 0, .l 0, .l 0, .l 0, .l 0, .l 0, .l 0, .l 0, .l 0, .l 0, .l 1, .l 0, .l 0, .l 0, .l 0, .l 0, .l 0, .l 0, .l 0, .l 0, .l 0, .l 0, .l 0, .l 0, .l 0, .l 0, .l 0, .l 0, .l 0, .l 0, .l 0, .l 0, .l 0, .l 0, .l 0, .l 0, .l 0, .l 0, .l 0, .l 0, .l 0, .l 0]⟩
noncomputable def hmB : Code := (Try.f50).body.getD .skip
theorem hsplit {ρ ρ' : Nat → Int} (h : seg ρ 1 112 = seg ρ' 1 112) : seg ρ 1 32 = seg ρ' 1 32 ∧ seg ρ 33 64 = seg ρ' 33 64 ∧ seg ρ 97 16 = seg ρ' 97 16 := by
  rw [pseg_sp ρ 1 32 80, pseg_sp ρ' 1 32 80] at h
  obtain ⟨h1, h2⟩ := List.append_inj h (by rw [seg_len, seg_len])
  rw [pseg_sp ρ 33 64 16, pseg_sp ρ' 33 64 16] at h2
  obtain ⟨h3, h4⟩ := List.append_inj h2 (by rw [seg_len, seg_len])
  exact ⟨h1, h3, h4⟩
theorem hm_get (ρ : Nat → Int) {i : Nat} (hi : i < 177) : ρ i = ([ρ 0] ++ (seg ρ 1 112 ++ seg ρ 113 64)).getD i 0 := by
  rw [show [ρ 0] ++ (seg ρ 1 112 ++ seg ρ 113 64) = seg ρ 0 177 from rfl, seg_get hi, Nat.zero_add]
theorem hm_dig {ρ : Nat → Int} (hT : TOk hmT.slT hmT.memT ρ) : Dig 256 (seg ρ 1 32) := by
  have h2 : ∀ c ∈ (List.range 32).map (fun i => C.int .u8 (.v (1 + i))), C.inr ρ c := hT.m _ (List.mem_cons_self ..)
  exact dig8 (seg_inr h2)
def hmI (ρ0 ρ : Nat → Int) : Prop :=
  seg ρ 1 112 = seg ρ0 1 112 ∧ -1 ≤ ρ 0 ∧ ρ 0 ≤ 255 ∧ PF (seg ρ0 33 64) ∧ FF (seg ρ0 97 16) ∧ dv 65536 (seg ρ0 97 16) % PP = DD % PP ∧ Dig 256 (seg ρ0 1 32) ∧ seg ρ 113 64 = mulFn (seg ρ0 33 64) (seg ρ0 97 16) (dv 256 (seg ρ0 1 32)) (255 - ρ 0).toNat
theorem hm_after {ρ0 ρT : Nat → Int} {n : Nat} (hn : ρT 0 = n) (i2 : ρT 0 ≤ 255) (pA : PF (seg ρ0 33 64)) (fD : FF (seg ρ0 97 16)) (hD : dv 65536 (seg ρ0 97 16) % PP = DD % PP) (dN : Dig 256 (seg ρ0 1 32)) {O : List Int} (hO : O = mulFn (seg ρ0 33 64) (seg ρ0 97 16) (dv 256 (seg ρ0 1 32)) (255 - n + 1)) {x' : Nat → Int} (hx : x' = fun i => ([ρT 0 - 1] ++ (seg ρ0 1 112 ++ O)).getD i 0) : hmI ρ0 x' ∧ (x' 0 + 1).toNat < (ρT 0 + 1).toNat := by
  have x0 : x' 0 = ρT 0 - 1 := by rw [hx]; rfl
  have lO : O.length = 64 := by rw [hO]; exact (mulFn_ff pA fD hD _ _).2
  have xa : seg x' 1 112 = seg ρ0 1 112 := by
    have := seg_mid [ρT 0 - 1] (seg ρ0 1 112) O
    rw [seg_len] at this; rw [hx]; exact this
  have xb : seg x' 113 64 = O := by
    have := seg_end [ρT 0 - 1] (seg ρ0 1 112) O
    rw [seg_len, lO] at this; rw [hx]; exact this
  exact ⟨⟨xa, by rw [x0]; omega, by rw [x0]; omega, pA, fD, hD, dN, by rw [xb, hO, x0]; congr 1; omega⟩, by rw [x0]; omega⟩
theorem hm_go {cl : Code} (hb : loopAt 0 hmB = some cl) {ρ0 ρT : Nat → Int} (hI : hmI ρ0 ρT) (hge : 0 ≤ ρT 0) :
    ∃ e x', RoundEnd Try.prog hfns (callN Try.prog HT2 300 5) 300 cl hmT.slT hmT.memT hmT.m ρT e x' ∧ ((e = .normal ∧ hmI ρ0 x' ∧ (x' 0 + 1).toNat < (ρT 0 + 1).toNat) ∨ (e = .exit hmT.xid ∧ ∀ i, i < hmT.m → x' i = (hfns.g hmT.j [xs hmT.m ρ0]).getD i 0)) := by
  obtain ⟨i1, i2, i3, pA, fD, hD, dN, i4⟩ := hI
  obtain ⟨n, hn⟩ := Int.eq_ofNat_of_zero_le hge
  have hn255 : n ≤ 255 := by omega
  rw [hn, show (255 - (n : Int)).toNat = 255 - n by omega] at i4
  have fO := (mulFn_ff pA fD hD (dv 256 (seg ρ0 1 32)) (255 - n)).1
  obtain ⟨O, hO⟩ : ∃ O, O = mulFn (seg ρ0 33 64) (seg ρ0 97 16) (dv 256 (seg ρ0 1 32)) (255 - n) := ⟨_, rfl⟩
  rw [← hO] at i4 fO
  have hstep : mulFn (seg ρ0 33 64) (seg ρ0 97 16) (dv 256 (seg ρ0 1 32)) (255 - n + 1) = if dv 256 (seg ρ0 1 32) / 2 ^ n % 2 = 1 then addF (addF O O (seg ρ0 97 16)) (seg ρ0 33 64) (seg ρ0 97 16) else addF O O (seg ρ0 97 16) := by
    rw [hO]
    show (if _ / 2 ^ (255 - (255 - n)) % 2 = 1 then _ else _) = _
    rw [show 255 - (255 - n) = n by omega]
  have fOO := addF_ok fO fO fD hD
  by_cases hbt : dv 256 (seg ρ0 1 32) / 2 ^ n % 2 = 1
  · rw [if_pos hbt] at hstep
    have hk : roundB Try.prog HT2 300 5 (loopAt 0 hmB) hmT [true,true] none [.cmp 177 .geq (.v 0) (.l 0), .cond 177 true, .need 121 [[.v 113, .v 114, .v 115, .v 116, .v 117, .v 118, .v 119, .v 120, .v 121, .v 122, .v 123, .v 124, .v 125, .v 126, .v 127, .v 128, .v 129, .v 130, .v 131, .v 132, .v 133, .v 134, .v 135, .v 136, .v 137, .v 138, .v 139, .v 140, .v 141, .v 142, .v 143, .v 144, .v 145, .v 146, .v 147, .v 148, .v 149, .v 150, .v 151, .v 152, .v 153, .v 154, .v 155, .v 156, .v 157, .v 158, .v 159, .v 160, .v 161, .v 162, .v 163, .v 164, .v 165, .v 166, .v 167, .v 168, .v 169, .v 170, .v 171, .v 172, .v 173, .v 174, .v 175, .v 176], [.v 113, .v 114, .v 115, .v 116, .v 117, .v 118, .v 119, .v 120, .v 121, .v 122, .v 123, .v 124, .v 125, .v 126, .v 127, .v 128, .v 129, .v 130, .v 131, .v 132, .v 133, .v 134, .v 135, .v 136, .v 137, .v 138, .v 139, .v 140, .v 141, .v 142, .v 143, .v 144, .v 145, .v 146, .v 147, .v 148, .v 149, .v 150, .v 151, .v 152, .v 153, .v 154, .v 155, .v 156, .v 157, .v 158, .v 159, .v 160, .v 161, .v 162, .v 163, .v 164, .v 165, .v 166, .v 167, .v 168, .v 169, .v 170, .v 171, .v 172, .v 173, .v 174, .v 175, .v 176], [.v 97, .v 98, .v 99, .v 100, .v 101, .v 102, .v 103, .v 104, .v 105, .v 106, .v 107, .v 108, .v 109, .v 110, .v 111, .v 112]], .call 178 121 [[.v 113, .v 114, .v 115, .v 116, .v 117, .v 118, .v 119, .v 120, .v 121, .v 122, .v 123, .v 124, .v 125, .v 126, .v 127, .v 128, .v 129, .v 130, .v 131, .v 132, .v 133, .v 134, .v 135, .v 136, .v 137, .v 138, .v 139, .v 140, .v 141, .v 142, .v 143, .v 144, .v 145, .v 146, .v 147, .v 148, .v 149, .v 150, .v 151, .v 152, .v 153, .v 154, .v 155, .v 156, .v 157, .v 158, .v 159, .v 160, .v 161, .v 162, .v 163, .v 164, .v 165, .v 166, .v 167, .v 168, .v 169, .v 170, .v 171, .v 172, .v 173, .v 174, .v 175, .v 176], [.v 113, .v 114, .v 115, .v 116, .v 117, .v 118, .v 119, .v 120, .v 121, .v 122, .v 123, .v 124, .v 125, .v 126, .v 127, .v 128, .v 129, .v 130, .v 131, .v 132, .v 133, .v 134, .v 135, .v 136, .v 137, .v 138, .v 139, .v 140, .v 141, .v 142, .v 143, .v 144, .v 145, .v 146, .v 147, .v 148, .v 149, .v 150, .v 151, .v 152, .v 153, .v 154, .v 155, .v 156, .v 157, .v 158, .v 159, .v 160, .v 161, .v 162, .v 163, .v 164, .v 165, .v 166, .v 167, .v 168, .v 169, .v 170, .v 171, .v 172, .v 173, .v 174, .v 175, .v 176], [.v 97, .v 98, .v 99, .v 100, .v 101, .v 102, .v 103, .v 104, .v 105, .v 106, .v 107, .v 108, .v 109, .v 110, .v 111, .v 112]] 64, .bin 242 .quo .i64 (.v 0) (.l 8), .idx 242 32, .sel 243 [.v 1, .v 2, .v 3, .v 4, .v 5, .v 6, .v 7, .v 8, .v 9, .v 10, .v 11, .v 12, .v 13, .v 14, .v 15, .v 16, .v 17, .v 18, .v 19, .v 20, .v 21, .v 22, .v 23, .v 24, .v 25, .v 26, .v 27, .v 28, .v 29, .v 30, .v 31, .v 32] 242, .bin 244 .rem .i64 (.v 0) (.l 8), .conv 245 .u64 (.v 244), .idx 245 1000000, .shv 246 false .u8 (.v 243) 245, .bin 247 .and .u8 (.v 246) (.l 1), .cmp 248 .eql (.v 247) (.l 1), .cond 248 true, .need 121 [[.v 178, .v 179, .v 180, .v 181, .v 182, .v 183, .v 184, .v 185, .v 186, .v 187, .v 188, .v 189, .v 190, .v 191, .v 192, .v 193, .v 194, .v 195, .v 196, .v 197, .v 198, .v 199, .v 200, .v 201, .v 202, .v 203, .v 204, .v 205, .v 206, .v 207, .v 208, .v 209, .v 210, .v 211, .v 212, .v 213, .v 214, .v 215, .v 216, .v 217, .v 218, .v 219, .v 220, .v 221, .v 222, .v 223, .v 224, .v 225, .v 226, .v 227, .v 228, .v 229, .v 230, .v 231, .v 232, .v 233, .v 234, .v 235, .v 236, .v 237, .v 238, .v 239, .v 240, .v 241], [.v 33, .v 34, .v 35, .v 36, .v 37, .v 38, .v 39, .v 40, .v 41, .v 42, .v 43, .v 44, .v 45, .v 46, .v 47, .v 48, .v 49, .v 50, .v 51, .v 52, .v 53, .v 54, .v 55, .v 56, .v 57, .v 58, .v 59, .v 60, .v 61, .v 62, .v 63, .v 64, .v 65, .v 66, .v 67, .v 68, .v 69, .v 70, .v 71, .v 72, .v 73, .v 74, .v 75, .v 76, .v 77, .v 78, .v 79, .v 80, .v 81, .v 82, .v 83, .v 84, .v 85, .v 86, .v 87, .v 88, .v 89, .v 90, .v 91, .v 92, .v 93, .v 94, .v 95, .v 96], [.v 97, .v 98, .v 99, .v 100, .v 101, .v 102, .v 103, .v 104, .v 105, .v 106, .v 107, .v 108, .v 109, .v 110, .v 111, .v 112]], .call 249 121 [[.v 178, .v 179, .v 180, .v 181, .v 182, .v 183, .v 184, .v 185, .v 186, .v 187, .v 188, .v 189, .v 190, .v 191, .v 192, .v 193, .v 194, .v 195, .v 196, .v 197, .v 198, .v 199, .v 200, .v 201, .v 202, .v 203, .v 204, .v 205, .v 206, .v 207, .v 208, .v 209, .v 210, .v 211, .v 212, .v 213, .v 214, .v 215, .v 216, .v 217, .v 218, .v 219, .v 220, .v 221, .v 222, .v 223, .v 224, .v 225, .v 226, .v 227, .v 228, .v 229, .v 230, .v 231, .v 232, .v 233, .v 234, .v 235, .v 236, .v 237, .v 238, .v 239, .v 240, .v 241], [.v 33, .v 34, .v 35, .v 36, .v 37, .v 38, .v 39, .v 40, .v 41, .v 42, .v 43, .v 44, .v 45, .v 46, .v 47, .v 48, .v 49, .v 50, .v 51, .v 52, .v 53, .v 54, .v 55, .v 56, .v 57, .v 58, .v 59, .v 60, .v 61, .v 62, .v 63, .v 64, .v 65, .v 66, .v 67, .v 68, .v 69, .v 70, .v 71, .v 72, .v 73, .v 74, .v 75, .v 76, .v 77, .v 78, .v 79, .v 80, .v 81, .v 82, .v 83, .v 84, .v 85, .v 86, .v 87, .v 88, .v 89, .v 90, .v 91, .v 92, .v 93, .v 94, .v 95, .v 96], [.v 97, .v 98, .v 99, .v 100, .v 101, .v 102, .v 103, .v 104, .v 105, .v 106, .v 107, .v 108, .v 109, .v 110, .v 111, .v 112]] 64, .bin 313 .sub .i64 (.v 0) (.l 1)] [.v 313, .v 1, .v 2, .v 3, .v 4, .v 5, .v 6, .v 7, .v 8, .v 9, .v 10, .v 11, .v 12, .v 13, .v 14, .v 15, .v 16, .v 17, .v 18, .v 19, .v 20, .v 21, .v 22, .v 23, .v 24, .v 25, .v 26, .v 27, .v 28, .v 29, .v 30, .v 31, .v 32, .v 33, .v 34, .v 35, .v 36, .v 37, .v 38, .v 39, .v 40, .v 41, .v 42, .v 43, .v 44, .v 45, .v 46, .v 47, .v 48, .v 49, .v 50, .v 51, .v 52, .v 53, .v 54, .v 55, .v 56, .v 57, .v 58, .v 59, .v 60, .v 61, .v 62, .v 63, .v 64, .v 65, .v 66, .v 67, .v 68, .v 69, .v 70, .v 71, .v 72, .v 73, .v 74, .v 75, .v 76, .v 77, .v 78, .v 79, .v 80, .v 81, .v 82, .v 83, .v 84, .v 85, .v 86, .v 87, .v 88, .v 89, .v 90, .v 91, .v 92, .v 93, .v 94, .v 95, .v 96, .v 97, .v 98, .v 99, .v 100, .v 101, .v 102, .v 103, .v 104, .v 105, .v 106, .v 107, .v 108, .v 109, .v 110, .v 111, .v 112, .v 249, .v 250, .v 251, .v 252, .v 253, .v 254, .v 255, .v 256, .v 257, .v 258, .v 259, .v 260, .v 261, .v 262, .v 263, .v 264, .v 265, .v 266, .v 267, .v 268, .v 269, .v 270, .v 271, .v 272, .v 273, .v 274, .v 275, .v 276, .v 277, .v 278, .v 279, .v 280, .v 281, .v 282, .v 283, .v 284, .v 285, .v 286, .v 287, .v 288, .v 289, .v 290, .v 291, .v 292, .v 293, .v 294, .v 295, .v 296, .v 297, .v 298, .v 299, .v 300, .v 301, .v 302, .v 303, .v 304, .v 305, .v 306, .v 307, .v 308, .v 309, .v 310, .v 311, .v 312] = true := by kernel_rfl
    rw [hb] at hk
    refine ⟨.normal, _, RoundEnd.of (e := none) hk fun ρ hρ hd => ?_, .inl ⟨rfl, hm_after hn i3 pA fD hD dN hstep.symm rfl⟩⟩
    have hρ : ∀ i, i < 177 → ρ i = ρT i := hρ
    have r0 : ρ 0 = (n : Int) := by rw [hρ 0 (by decide), hn]
    have sm : seg ρ 1 112 = seg ρ0 1 112 := (seg_congr fun i hi => hρ _ (by omega)).trans i1
    obtain ⟨sn, sa, sdd⟩ := hsplit sm
    have so : seg ρ 113 64 = O := (seg_congr fun i hi => hρ _ (by omega)).trans i4
    simp only [D_nil, D_add, D_sub, D_mul, D_and, D_or, D_xor, D_shl, D_shr, D_andNot, D_quo, D_rem, D_add_i64, D_sub_i64, D_mul_i64, D_add_u32, D_sub_u32, D_mul_u32, D_add_u8, D_sub_u8, D_mul_u8, D_eql, D_neq, D_lss, D_leq, D_gtr, D_geq, D_not, D_conv, D_eqs, D_call, D_cond, D_need, D_idx, D_sel, D_upd, D_shv, D_beq, List.map_cons, List.map_nil, Ref.den, r0] at hd
    obtain ⟨h177, h178, h242, h243, h244, h245, h246, h247, h248, h249, h313, -⟩ := hd
    have e242 : ρ 242 = (n : Int) / 8 := i_quo 8 (by decide) (by omega) (by omega) rfl h242
    have e244 : ρ 244 = (n : Int) % 8 := i_rem 8 (by decide) (by omega) rfl h244
    have e245 : ρ 245 = ρ 244 := by rw [h245, c_u64]; omega
    have e243 : ρ 243 = (seg ρ0 1 32).getD (n / 8) 0 := by
      have h : ρ 243 = (seg ρ 1 32).getD (ρ 242).toNat 0 := h243
      rw [h, sn, e242, show ((n : Int) / 8).toNat = n / 8 by omega]
    have e246 := shv_r (n % 8) (by show n % 8 ≤ 8; omega) h246 (by rw [e245, e244]; omega)
    have e247 := k_and 1 (by decide) rfl h247
    rw [show (2 : Int) ^ 1 = 2 by decide] at e247
    have hbit := bit_of (w := 8) (l := seg ρ0 1 32) (i := n / 8) (r := n % 8) (by rw [peight]; exact dN) (by rw [seg_len]; omega) (by omega)
    rw [peight, show 8 * (n / 8) + n % 8 = n by omega] at hbit
    have eb : ρ 247 = dv 256 (seg ρ0 1 32) / 2 ^ n % 2 := by rw [e247, e246, e243, hbit]
    have k177 := bit_true h177 (decide_eq_true (show (0 : Int) ≤ n by omega))
    have s178 : seg ρ 178 64 = addF O O (seg ρ0 97 16) := by
      have := seg_of (ρ := ρ) (n := 178) (g := addF (seg ρ 113 64) (seg ρ 113 64) (seg ρ 97 16)) h178 (by rw [so, sdd]; exact (addF_ok fO fO fD hD).2.1)
      rw [so, sdd] at this; exact this
    have k248 := bit_true h248 (decide_eq_true (eb.trans hbt))
    have s249 : seg ρ 249 64 = addF (addF O O (seg ρ0 97 16)) (seg ρ0 33 64) (seg ρ0 97 16) := by
      have := seg_of (ρ := ρ) (n := 249) (g := addF (seg ρ 178 64) (seg ρ 33 64) (seg ρ 97 16)) h249 (by rw [s178, sa, sdd]; exact (addF_ok fOO.1 pA fD hD).2.1)
      rw [s178, sa, sdd] at this; exact this
    refine ⟨?_, fun i hi => ?_⟩
    · simp only [G_nil, G_bin, G_cmp, G_not, G_conv, G_eqs, G_call, G_cond, G_need, G_idx, G_sel, G_upd, G_shv, G_beq, List.map_cons, List.map_nil, Ref.den, r0]
      refine ⟨k177, ?_, ⟨?_, ?_⟩, ⟨?_, ?_⟩, k248, ?_, trivial⟩
      · show PF (seg ρ 113 64) ∧ PF (seg ρ 113 64) ∧ FF (seg ρ 97 16) ∧ dv 65536 (seg ρ 97 16) % PP = DD % PP; rw [so, sdd]; exact ⟨fO, fO, fD, hD⟩
      · omega
      · omega
      · omega
      · omega
      · show PF (seg ρ 178 64) ∧ PF (seg ρ 33 64) ∧ FF (seg ρ 97 16) ∧ dv 65536 (seg ρ 97 16) % PP = DD % PP; rw [s178, sa, sdd]; exact ⟨fOO.1, pA, fD, hD⟩
    · show ([ρ 313] ++ (seg ρ 1 112 ++ seg ρ 249 64)).getD i 0 = _
      rw [s249, sm, show ρ 313 = ρT 0 - 1 by rw [h313, IntKind.wrap_i64]; omega]
  · rw [if_neg hbt] at hstep
    have hk : roundB Try.prog HT2 300 5 (loopAt 0 hmB) hmT [true,false] none [.cmp 177 .geq (.v 0) (.l 0), .cond 177 true, .need 121 [[.v 113, .v 114, .v 115, .v 116, .v 117, .v 118, .v 119, .v 120, .v 121, .v 122, .v 123, .v 124, .v 125, .v 126, .v 127, .v 128, .v 129, .v 130, .v 131, .v 132, .v 133, .v 134, .v 135, .v 136, .v 137, .v 138, .v 139, .v 140, .v 141, .v 142, .v 143, .v 144, .v 145, .v 146, .v 147, .v 148, .v 149, .v 150, .v 151, .v 152, .v 153, .v 154, .v 155, .v 156, .v 157, .v 158, .v 159, .v 160, .v 161, .v 162, .v 163, .v 164, .v 165, .v 166, .v 167, .v 168, .v 169, .v 170, .v 171, .v 172, .v 173, .v 174, .v 175, .v 176], [.v 113, .v 114, .v 115, .v 116, .v 117, .v 118, .v 119, .v 120, .v 121, .v 122, .v 123, .v 124, .v 125, .v 126, .v 127, .v 128, .v 129, .v 130, .v 131, .v 132, .v 133, .v 134, .v 135, .v 136, .v 137, .v 138, .v 139, .v 140, .v 141, .v 142, .v 143, .v 144, .v 145, .v 146, .v 147, .v 148, .v 149, .v 150, .v 151, .v 152, .v 153, .v 154, .v 155, .v 156, .v 157, .v 158, .v 159, .v 160, .v 161, .v 162, .v 163, .v 164, .v 165, .v 166, .v 167, .v 168, .v 169, .v 170, .v 171, .v 172, .v 173, .v 174, .v 175, .v 176], [.v 97, .v 98, .v 99, .v 100, .v 101, .v 102, .v 103, .v 104, .v 105, .v 106, .v 107, .v 108, .v 109, .v 110, .v 111, .v 112]], .call 178 121 [[.v 113, .v 114, .v 115, .v 116, .v 117, .v 118, .v 119, .v 120, .v 121, .v 122, .v 123, .v 124, .v 125, .v 126, .v 127, .v 128, .v 129, .v 130, .v 131, .v 132, .v 133, .v 134, .v 135, .v 136, .v 137, .v 138, .v 139, .v 140, .v 141, .v 142, .v 143, .v 144, .v 145, .v 146, .v 147, .v 148, .v 149, .v 150, .v 151, .v 152, .v 153, .v 154, .v 155, .v 156, .v 157, .v 158, .v 159, .v 160, .v 161, .v 162, .v 163, .v 164, .v 165, .v 166, .v 167, .v 168, .v 169, .v 170, .v 171, .v 172, .v 173, .v 174, .v 175, .v 176], [.v 113, .v 114, .v 115, .v 116, .v 117, .v 118, .v 119, .v 120, .v 121, .v 122, .v 123, .v 124, .v 125, .v 126, .v 127, .v 128, .v 129, .v 130, .v 131, .v 132, .v 133, .v 134, .v 135, .v 136, .v 137, .v 138, .v 139, .v 140, .v 141, .v 142, .v 143, .v 144, .v 145, .v 146, .v 147, .v 148, .v 149, .v 150, .v 151, .v 152, .v 153, .v 154, .v 155, .v 156, .v 157, .v 158, .v 159, .v 160, .v 161, .v 162, .v 163, .v 164, .v 165, .v 166, .v 167, .v 168, .v 169, .v 170, .v 171, .v 172, .v 173, .v 174, .v 175, .v 176], [.v 97, .v 98, .v 99, .v 100, .v 101, .v 102, .v 103, .v 104, .v 105, .v 106, .v 107, .v 108, .v 109, .v 110, .v 111, .v 112]] 64, .bin 242 .quo .i64 (.v 0) (.l 8), .idx 242 32, .sel 243 [.v 1, .v 2, .v 3, .v 4, .v 5, .v 6, .v 7, .v 8, .v 9, .v 10, .v 11, .v 12, .v 13, .v 14, .v 15, .v 16, .v 17, .v 18, .v 19, .v 20, .v 21, .v 22, .v 23, .v 24, .v 25, .v 26, .v 27, .v 28, .v 29, .v 30, .v 31, .v 32] 242, .bin 244 .rem .i64 (.v 0) (.l 8), .conv 245 .u64 (.v 244), .idx 245 1000000, .shv 246 false .u8 (.v 243) 245, .bin 247 .and .u8 (.v 246) (.l 1), .cmp 248 .eql (.v 247) (.l 1), .cond 248 false, .bin 249 .sub .i64 (.v 0) (.l 1)] [.v 249, .v 1, .v 2, .v 3, .v 4, .v 5, .v 6, .v 7, .v 8, .v 9, .v 10, .v 11, .v 12, .v 13, .v 14, .v 15, .v 16, .v 17, .v 18, .v 19, .v 20, .v 21, .v 22, .v 23, .v 24, .v 25, .v 26, .v 27, .v 28, .v 29, .v 30, .v 31, .v 32, .v 33, .v 34, .v 35, .v 36, .v 37, .v 38, .v 39, .v 40, .v 41, .v 42, .v 43, .v 44, .v 45, .v 46, .v 47, .v 48, .v 49, .v 50, .v 51, .v 52, .v 53, .v 54, .v 55, .v 56, .v 57, .v 58, .v 59, .v 60, .v 61, .v 62, .v 63, .v 64, .v 65, .v 66, .v 67, .v 68, .v 69, .v 70, .v 71, .v 72, .v 73, .v 74, .v 75, .v 76, .v 77, .v 78, .v 79, .v 80, .v 81, .v 82, .v 83, .v 84, .v 85, .v 86, .v 87, .v 88, .v 89, .v 90, .v 91, .v 92, .v 93, .v 94, .v 95, .v 96, .v 97, .v 98, .v 99, .v 100, .v 101, .v 102, .v 103, .v 104, .v 105, .v 106, .v 107, .v 108, .v 109, .v 110, .v 111, .v 112, .v 178, .v 179, .v 180, .v 181, .v 182, .v 183, .v 184, .v 185, .v 186, .v 187, .v 188, .v 189, .v 190, .v 191, .v 192, .v 193, .v 194, .v 195, .v 196, .v 197, .v 198, .v 199, .v 200, .v 201, .v 202, .v 203, .v 204, .v 205, .v 206, .v 207, .v 208, .v 209, .v 210, .v 211, .v 212, .v 213, .v 214, .v 215, .v 216, .v 217, .v 218, .v 219, .v 220, .v 221, .v 222, .v 223, .v 224, .v 225, .v 226, .v 227, .v 228, .v 229, .v 230, .v 231, .v 232, .v 233, .v 234, .v 235, .v 236, .v 237, .v 238, .v 239, .v 240, .v 241] = true := by kernel_rfl
    rw [hb] at hk
    refine ⟨.normal, _, RoundEnd.of (e := none) hk fun ρ hρ hd => ?_, .inl ⟨rfl, hm_after hn i3 pA fD hD dN hstep.symm rfl⟩⟩
    have hρ : ∀ i, i < 177 → ρ i = ρT i := hρ
    have r0 : ρ 0 = (n : Int) := by rw [hρ 0 (by decide), hn]
    have sm : seg ρ 1 112 = seg ρ0 1 112 := (seg_congr fun i hi => hρ _ (by omega)).trans i1
    obtain ⟨sn, sa, sdd⟩ := hsplit sm
    have so : seg ρ 113 64 = O := (seg_congr fun i hi => hρ _ (by omega)).trans i4
    simp only [D_nil, D_add, D_sub, D_mul, D_and, D_or, D_xor, D_shl, D_shr, D_andNot, D_quo, D_rem, D_add_i64, D_sub_i64, D_mul_i64, D_add_u32, D_sub_u32, D_mul_u32, D_add_u8, D_sub_u8, D_mul_u8, D_eql, D_neq, D_lss, D_leq, D_gtr, D_geq, D_not, D_conv, D_eqs, D_call, D_cond, D_need, D_idx, D_sel, D_upd, D_shv, D_beq, List.map_cons, List.map_nil, Ref.den, r0] at hd
    obtain ⟨h177, h178, h242, h243, h244, h245, h246, h247, h248, h249, -⟩ := hd
    have e242 : ρ 242 = (n : Int) / 8 := i_quo 8 (by decide) (by omega) (by omega) rfl h242
    have e244 : ρ 244 = (n : Int) % 8 := i_rem 8 (by decide) (by omega) rfl h244
    have e245 : ρ 245 = ρ 244 := by rw [h245, c_u64]; omega
    have e243 : ρ 243 = (seg ρ0 1 32).getD (n / 8) 0 := by
      have h : ρ 243 = (seg ρ 1 32).getD (ρ 242).toNat 0 := h243
      rw [h, sn, e242, show ((n : Int) / 8).toNat = n / 8 by omega]
    have e246 := shv_r (n % 8) (by show n % 8 ≤ 8; omega) h246 (by rw [e245, e244]; omega)
    have e247 := k_and 1 (by decide) rfl h247
    rw [show (2 : Int) ^ 1 = 2 by decide] at e247
    have hbit := bit_of (w := 8) (l := seg ρ0 1 32) (i := n / 8) (r := n % 8) (by rw [peight]; exact dN) (by rw [seg_len]; omega) (by omega)
    rw [peight, show 8 * (n / 8) + n % 8 = n by omega] at hbit
    have eb : ρ 247 = dv 256 (seg ρ0 1 32) / 2 ^ n % 2 := by rw [e247, e246, e243, hbit]
    have k177 := bit_true h177 (decide_eq_true (show (0 : Int) ≤ n by omega))
    have s178 : seg ρ 178 64 = addF O O (seg ρ0 97 16) := by
      have := seg_of (ρ := ρ) (n := 178) (g := addF (seg ρ 113 64) (seg ρ 113 64) (seg ρ 97 16)) h178 (by rw [so, sdd]; exact (addF_ok fO fO fD hD).2.1)
      rw [so, sdd] at this; exact this
    have k248 := bit_false h248 (decide_eq_false fun q => hbt (eb.symm.trans q))
    refine ⟨?_, fun i hi => ?_⟩
    · simp only [G_nil, G_bin, G_cmp, G_not, G_conv, G_eqs, G_call, G_cond, G_need, G_idx, G_sel, G_upd, G_shv, G_beq, List.map_cons, List.map_nil, Ref.den, r0]
      refine ⟨k177, ?_, ⟨?_, ?_⟩, ⟨?_, ?_⟩, k248, trivial⟩
      · show PF (seg ρ 113 64) ∧ PF (seg ρ 113 64) ∧ FF (seg ρ 97 16) ∧ dv 65536 (seg ρ 97 16) % PP = DD % PP; rw [so, sdd]; exact ⟨fO, fO, fD, hD⟩
      · omega
      · omega
      · omega
      · omega
    · show ([ρ 249] ++ (seg ρ 1 112 ++ seg ρ 178 64)).getD i 0 = _
      rw [s178, sm, show ρ 249 = ρT 0 - 1 by rw [h249, IntKind.wrap_i64]; omega]
theorem hm_end {cl : Code} (hb : loopAt 0 hmB = some cl) {ρ0 ρT : Nat → Int} (hI : hmI ρ0 ρT) (hlt : ¬ 0 ≤ ρT 0) :
    ∃ e x', RoundEnd Try.prog hfns (callN Try.prog HT2 300 5) 300 cl hmT.slT hmT.memT hmT.m ρT e x' ∧ ((e = .normal ∧ hmI ρ0 x' ∧ (x' 0 + 1).toNat < (ρT 0 + 1).toNat) ∨ (e = .exit hmT.xid ∧ ∀ i, i < hmT.m → x' i = (hfns.g hmT.j [xs hmT.m ρ0]).getD i 0)) := by
  obtain ⟨i1, i2, i3, pA, fD, hD, dN, i4⟩ := hI
  have hk : roundB Try.prog HT2 300 5 (loopAt 0 hmB) hmT [false] (some 0) [.cmp 177 .geq (.v 0) (.l 0), .cond 177 false] [.v 0, .v 1, .v 2, .v 3, .v 4, .v 5, .v 6, .v 7, .v 8, .v 9, .v 10, .v 11, .v 12, .v 13, .v 14, .v 15, .v 16, .v 17, .v 18, .v 19, .v 20, .v 21, .v 22, .v 23, .v 24, .v 25, .v 26, .v 27, .v 28, .v 29, .v 30, .v 31, .v 32, .v 33, .v 34, .v 35, .v 36, .v 37, .v 38, .v 39, .v 40, .v 41, .v 42, .v 43, .v 44, .v 45, .v 46, .v 47, .v 48, .v 49, .v 50, .v 51, .v 52, .v 53, .v 54, .v 55, .v 56, .v 57, .v 58, .v 59, .v 60, .v 61, .v 62, .v 63, .v 64, .v 65, .v 66, .v 67, .v 68, .v 69, .v 70, .v 71, .v 72, .v 73, .v 74, .v 75, .v 76, .v 77, .v 78, .v 79, .v 80, .v 81, .v 82, .v 83, .v 84, .v 85, .v 86, .v 87, .v 88, .v 89, .v 90, .v 91, .v 92, .v 93, .v 94, .v 95, .v 96, .v 97, .v 98, .v 99, .v 100, .v 101, .v 102, .v 103, .v 104, .v 105, .v 106, .v 107, .v 108, .v 109, .v 110, .v 111, .v 112, .v 113, .v 114, .v 115, .v 116, .v 117, .v 118, .v 119, .v 120, .v 121, .v 122, .v 123, .v 124, .v 125, .v 126, .v 127, .v 128, .v 129, .v 130, .v 131, .v 132, .v 133, .v 134, .v 135, .v 136, .v 137, .v 138, .v 139, .v 140, .v 141, .v 142, .v 143, .v 144, .v 145, .v 146, .v 147, .v 148, .v 149, .v 150, .v 151, .v 152, .v 153, .v 154, .v 155, .v 156, .v 157, .v 158, .v 159, .v 160, .v 161, .v 162, .v 163, .v 164, .v 165, .v 166, .v 167, .v 168, .v 169, .v 170, .v 171, .v 172, .v 173, .v 174, .v 175, .v 176] = true := by kernel_rfl
  rw [hb] at hk
  refine ⟨.exit 0, ρT, RoundEnd.of (e := some 0) hk fun ρ hρ hd => ?_, .inr ⟨rfl, fun i hi => ?_⟩⟩
  · have r0 : ρ 0 = ρT 0 := hρ 0 (by decide)
    simp only [D_nil, D_add, D_sub, D_mul, D_and, D_or, D_xor, D_shl, D_shr, D_andNot, D_quo, D_rem, D_add_i64, D_sub_i64, D_mul_i64, D_add_u32, D_sub_u32, D_mul_u32, D_add_u8, D_sub_u8, D_mul_u8, D_eql, D_neq, D_lss, D_leq, D_gtr, D_geq, D_not, D_conv, D_eqs, D_call, D_cond, D_need, D_idx, D_sel, D_upd, D_shv, D_beq, List.map_cons, List.map_nil, Ref.den, r0] at hd
    obtain ⟨h177, -⟩ := hd
    have k177 := bit_false h177 (decide_eq_false hlt)
    refine ⟨by simp only [G_nil, G_bin, G_cmp, G_not, G_conv, G_eqs, G_call, G_cond, G_need, G_idx, G_sel, G_upd, G_shv, G_beq, List.map_cons, List.map_nil, Ref.den]; exact ⟨k177, trivial⟩, fun i hi => ?_⟩
    show ([ρ 0] ++ (seg ρ 1 112 ++ seg ρ 113 64)).getD i 0 = _
    rw [← hm_get ρ hi, hρ i hi]
  · have hi : i < 177 := hi
    have e1 : ρT 0 = -1 := by omega
    show ρT i = (-1 :: (((Go.Sx.xs 177 ρ0).drop 1).take 112 ++ mulFn (((Go.Sx.xs 177 ρ0).drop 33).take 64) (((Go.Sx.xs 177 ρ0).drop 97).take 16) (dv 256 (((Go.Sx.xs 177 ρ0).drop 1).take 32)) 256)).getD i 0
    rw [xs_drop (by omega), xs_drop (by omega), xs_drop (by omega), xs_drop (by omega), hm_get ρT hi, e1, i1, i4, e1]
    rfl
theorem okHMul : CtrOK Try.prog hfns cHMul := by
  refine CtrOK.ofL (t := hmT) (k := 0) (fn := Try.f50) (body := hmB) okHT2 mixed (lf := 300) (d := 5) (by kernel_rfl) (by kernel_rfl) ?_ rfl fun w vs xs ha hp => ?_
  · intro cl hcl
    refine ⟨hmI, fun ρ => (ρ 0 + 1).toNat, fun ρ0 hT hp => ?_, fun ρ0 ρT hT hI => ?_⟩
    · have hp : (Go.Sx.xs 177 ρ0).getD 0 0 = 255 ∧ PF (((Go.Sx.xs 177 ρ0).drop 33).take 64) ∧ FF (((Go.Sx.xs 177 ρ0).drop 97).take 16) ∧ dv 65536 (((Go.Sx.xs 177 ρ0).drop 97).take 16) % PP = DD % PP ∧ ((Go.Sx.xs 177 ρ0).drop 113).take 64 = zeroP := hp
      rw [xs_get (by omega), xs_drop (by omega), xs_drop (by omega), xs_drop (by omega)] at hp
      obtain ⟨p1, p2, p3, p4, p5⟩ := hp
      exact ⟨rfl, by omega, by omega, p2, p3, p4, hm_dig hT, by rw [p1, p5]; rfl⟩
    · by_cases h : 0 ≤ ρT 0
      · exact hm_go hcl hI h
      · exact hm_end hcl hI h
  · obtain ⟨v, u, a, b, rfl, rfl, ⟨la, -, ia⟩, ⟨lb, -, ib⟩⟩ := open2 ha
    have pB : PF b := hp
    refine WayL.of (dec := []) (fs := [.need 120 [], .call 96 120 [] 16, .need 130 [[.l 255, .v 0, .v 1, .v 2, .v 3, .v 4, .v 5, .v 6, .v 7, .v 8, .v 9, .v 10, .v 11, .v 12, .v 13, .v 14, .v 15, .v 16, .v 17, .v 18, .v 19, .v 20, .v 21, .v 22, .v 23, .v 24, .v 25, .v 26, .v 27, .v 28, .v 29, .v 30, .v 31, .v 32, .v 33, .v 34, .v 35, .v 36, .v 37, .v 38, .v 39, .v 40, .v 41, .v 42, .v 43, .v 44, .v 45, .v 46, .v 47, .v 48, .v 49, .v 50, .v 51, .v 52, .v 53, .v 54, .v 55, .v 56, .v 57, .v 58, .v 59, .v 60, .v 61, .v 62, .v 63, .v 64, .v 65, .v 66, .v 67, .v 68, .v 69, .v 70, .v 71, .v 72, .v 73, .v 74, .v 75, .v 76, .v 77, .v 78, .v 79, .v 80, .v 81, .v 82, .v 83, .v 84, .v 85, .v 86, .v 87, .v 88, .v 89, .v 90, .v 91, .v 92, .v 93, .v 94, .v 95, .v 96, .v 97, .v 98, .v 99, .v 100, .v 101, .v 102, .v 103, .v 104, .v 105, .v 106, .v 107, .v 108, .v 109, .v 110, .v 111, .l 0, .l 0, .l 0, .l 0, .l 0, .l 0, .l 0, .l 0, .l 0, .l 0, .l 0, .l 0, .l 0, .l 0, .l 0, .l 0, .l 1, .l 0, .l 0, .l 0, .l 0, .l 0, .l 0, .l 0, .l 0, .l 0, .l 0, .l 0, .l 0, .l 0, .l 0, .l 0, .l 1, .l 0, .l 0, .l 0, .l 0, .l 0, .l 0, .l 0, .l 0, .l 0, .l 0, .l 0, .l 0, .l 0, .l 0, .l 0, .l 0, .l 0, .l 0, .l 0, .l 0, .l 0, .l 0, .l 0, .l 0, .l 0, .l 0, .l 0, .l 0, .l 0, .l 0, .l 0]], .call 112 130 [[.l 255, .v 0, .v 1, .v 2, .v 3, .v 4, .v 5, .v 6, .v 7, .v 8, .v 9, .v 10, .v 11, .v 12, .v 13, .v 14, .v 15, .v 16, .v 17, .v 18, .v 19, .v 20, .v 21, .v 22, .v 23, .v 24, .v 25, .v 26, .v 27, .v 28, .v 29, .v 30, .v 31, .v 32, .v 33, .v 34, .v 35, .v 36, .v 37, .v 38, .v 39, .v 40, .v 41, .v 42, .v 43, .v 44, .v 45, .v 46, .v 47, .v 48, .v 49, .v 50, .v 51, .v 52, .v 53, .v 54, .v 55, .v 56, .v 57, .v 58, .v 59, .v 60, .v 61, .v 62, .v 63, .v 64, .v 65, .v 66, .v 67, .v 68, .v 69, .v 70, .v 71, .v 72, .v 73, .v 74, .v 75, .v 76, .v 77, .v 78, .v 79, .v 80, .v 81, .v 82, .v 83, .v 84, .v 85, .v 86, .v 87, .v 88, .v 89, .v 90, .v 91, .v 92, .v 93, .v 94, .v 95, .v 96, .v 97, .v 98, .v 99, .v 100, .v 101, .v 102, .v 103, .v 104, .v 105, .v 106, .v 107, .v 108, .v 109, .v 110, .v 111, .l 0, .l 0, .l 0, .l 0, .l 0, .l 0, .l 0, .l 0, .l 0, .l 0, .l 0, .l 0, .l 0, .l 0, .l 0, .l 0, .l 1, .l 0, .l 0, .l 0, .l 0, .l 0, .l 0, .l 0, .l 0, .l 0, .l 0, .l 0, .l 0, .l 0, .l 0, .l 0, .l 1, .l 0, .l 0, .l 0, .l 0, .l 0, .l 0, .l 0, .l 0, .l 0, .l 0, .l 0, .l 0, .l 0, .l 0, .l 0, .l 0, .l 0, .l 0, .l 0, .l 0, .l 0, .l 0, .l 0, .l 0, .l 0, .l 0, .l 0, .l 0, .l 0, .l 0, .l 0]] 177]) (refs := [.v 225, .v 226, .v 227, .v 228, .v 229, .v 230, .v 231, .v 232, .v 233, .v 234, .v 235, .v 236, .v 237, .v 238, .v 239, .v 240, .v 241, .v 242, .v 243, .v 244, .v 245, .v 246, .v 247, .v 248, .v 249, .v 250, .v 251, .v 252, .v 253, .v 254, .v 255, .v 256, .v 257, .v 258, .v 259, .v 260, .v 261, .v 262, .v 263, .v 264, .v 265, .v 266, .v 267, .v 268, .v 269, .v 270, .v 271, .v 272, .v 273, .v 274, .v 275, .v 276, .v 277, .v 278, .v 279, .v 280, .v 281, .v 282, .v 283, .v 284, .v 285, .v 286, .v 287, .v 288]) (by kernel_rfl) fun ρ hρ hd => ?_
    obtain ⟨ea, eb⟩ := seg2 la lb hρ
    simp only [D_nil, D_add, D_sub, D_mul, D_and, D_or, D_xor, D_shl, D_shr, D_andNot, D_quo, D_rem, D_add_i64, D_sub_i64, D_mul_i64, D_add_u32, D_sub_u32, D_mul_u32, D_add_u8, D_sub_u8, D_mul_u8, D_eql, D_neq, D_lss, D_leq, D_gtr, D_geq, D_not, D_conv, D_eqs, D_call, D_cond, D_need, D_idx, D_sel, D_upd, D_shv, D_beq, List.map_cons, List.map_nil, Ref.den] at hd
    obtain ⟨h96, h112, -⟩ := hd
    have s96 : seg ρ 96 16 = dL := seg_of h96 dL_ok.1.len
    have s112 : ∀ i, i < 177 → ρ (112 + i) = ([-1] ++ ((seg ρ 0 32 ++ (seg ρ 32 64 ++ seg ρ 96 16)) ++ mulFn (seg ρ 32 64) (seg ρ 96 16) (dv 256 (seg ρ 0 32)) 256)).getD i 0 := fun i hi => h112 i hi
    rw [ea, eb, s96] at s112
    refine ⟨?_, ?_⟩
    · simp only [G_nil, G_bin, G_cmp, G_not, G_conv, G_eqs, G_call, G_cond, G_need, G_idx, G_sel, G_upd, G_shv, G_beq, List.map_cons, List.map_nil, Ref.den]
      refine ⟨trivial, ⟨rfl, ?_, ?_, ?_, rfl⟩, trivial⟩
      · show PF (seg ρ 32 64); rw [eb]; exact pB
      · show FF (seg ρ 96 16); rw [s96]; exact dL_ok.1
      · show dv 65536 (seg ρ 96 16) % PP = DD % PP; rw [s96]; exact dL_ok.2
    · show seg ρ 225 64 = mulFn b dL (dv 256 a) 256
      have l2 : (a ++ (b ++ dL)).length = 112 := by rw [List.length_append, List.length_append, dL_ok.1.len]; omega
      have := seg_end [-1] (a ++ (b ++ dL)) (mulFn b dL (dv 256 a) 256)
      rw [l2, (mulFn_ff pB dL_ok.1 dL_ok.2 _ _).2] at this
      rw [← this]
      exact seg_congr fun i hi => by rw [show 225 + i = 112 + (113 + i) by omega]; exact s112 _ (by omega)
end Go.Proofs.Ytfobnajgnnccmaa

namespace Go.Bx
theorem shl7 {x z : Int} (hx : x = 0 ∨ x = 1) (h : Go.Sx.binZ .shl .u8 x 7 = some z) : z = 128 * x := by
  rcases hx with rfl | rfl
  · exact (Option.some.inj (h.symm.trans (by decide : Go.Sx.binZ .shl .u8 0 7 = some 0)))
  · exact (Option.some.inj (h.symm.trans (by decide : Go.Sx.binZ .shl .u8 1 7 = some 128)))
theorem u8_or0 : ∀ n : Fin 256, Go.Sx.binZ .or .u8 (n.val : Int) 0 = some (n.val : Int) := by decide +kernel
theorem or_sign {x s z : Int} (hx : 0 ≤ x ∧ x < 128) (hs : s = 0 ∨ s = 1) (h : Go.Sx.binZ .or .u8 x (128 * s) = some z) : z = x + 128 * s := by
  rcases hs with rfl | rfl
  · obtain ⟨n, rfl⟩ := byteN (x := x) (by omega)
    have := Option.some.inj ((u8_or0 n).symm.trans h)
    omega
  · have := or128 hx h; omega
theorem u8_shr7 : ∀ n : Fin 256, Go.Sx.binZ .shr .u8 (n.val : Int) 7 = some ((n.val / 128 : Nat) : Int) := by decide +kernel
theorem u8_and127 : ∀ n : Fin 256, Go.Sx.binZ .and .u8 (n.val : Int) 127 = some ((n.val % 128 : Nat) : Int) := by decide +kernel
theorem shr7 {x z : Int} (hx : 0 ≤ x ∧ x < 256) (h : Go.Sx.binZ .shr .u8 x 7 = some z) : z = x / 128 := by
  obtain ⟨n, rfl⟩ := byteN hx
  rw [u8_shr7] at h
  have := Option.some.inj h
  omega
theorem and127 {x z : Int} (hx : 0 ≤ x ∧ x < 256) (h : Go.Sx.binZ .and .u8 x 127 = some z) : z = x % 128 := by
  obtain ⟨n, rfl⟩ := byteN hx
  rw [u8_and127] at h
  have := Option.some.inj h
  omega
theorem ev0 {R q : Int} (h : R = 0) (c : ¬ q = 1) (k : q = 0 ∨ q = 1) : R % 2 = q := by omega
theorem mod2 {R q : Int} (h : R % 2 = q) : R % 256 % 2 = q := by omega
theorem mod2b {R q : Int} (h : R % 256 % 2 = q) : R % 2 = q := by omega
end Go.Bx
namespace Go.Proofs.Ytfobnajgnnccmaa
open Go.RowKit Go.Bx Go.Sx
set_option linter.unusedSimpArgs false
set_option linter.unusedVariables false
def cHEnc : Ctr := ⟨43, 123, [.arr .i64 64], [.arr .u8 32]⟩
theorem okHEnc : CtrOK Try.prog hfns cHEnc := by
  refine CtrOK.of okHT1 mixed (lf := 300) (d := 5) rfl fun w vs xs ha hp => ?_
  obtain ⟨v, a, rfl, rfl, ⟨la, -, ia⟩⟩ := open1 ha
  have hp : PF a := hp
  rw [show hfns.g cHEnc.j [a] = encF a from rfl]
  have hP := PP_lt
  have hH := H255_lt
  have h31 := H31
  refine Go.Sx.Way.of (dec := []) (fs := [.need 57 [[.v 32, .v 33, .v 34, .v 35, .v 36, .v 37, .v 38, .v 39, .v 40, .v 41, .v 42, .v 43, .v 44, .v 45, .v 46, .v 47]], .call 64 57 [[.v 32, .v 33, .v 34, .v 35, .v 36, .v 37, .v 38, .v 39, .v 40, .v 41, .v 42, .v 43, .v 44, .v 45, .v 46, .v 47]] 16, .need 55 [[.v 0, .v 1, .v 2, .v 3, .v 4, .v 5, .v 6, .v 7, .v 8, .v 9, .v 10, .v 11, .v 12, .v 13, .v 14, .v 15], [.v 64, .v 65, .v 66, .v 67, .v 68, .v 69, .v 70, .v 71, .v 72, .v 73, .v 74, .v 75, .v 76, .v 77, .v 78, .v 79]], .call 80 55 [[.v 0, .v 1, .v 2, .v 3, .v 4, .v 5, .v 6, .v 7, .v 8, .v 9, .v 10, .v 11, .v 12, .v 13, .v 14, .v 15], [.v 64, .v 65, .v 66, .v 67, .v 68, .v 69, .v 70, .v 71, .v 72, .v 73, .v 74, .v 75, .v 76, .v 77, .v 78, .v 79]] 16, .need 52 [[.v 80, .v 81, .v 82, .v 83, .v 84, .v 85, .v 86, .v 87, .v 88, .v 89, .v 90, .v 91, .v 92, .v 93, .v 94, .v 95]], .call 96 52 [[.v 80, .v 81, .v 82, .v 83, .v 84, .v 85, .v 86, .v 87, .v 88, .v 89, .v 90, .v 91, .v 92, .v 93, .v 94, .v 95]] 32, .need 55 [[.v 16, .v 17, .v 18, .v 19, .v 20, .v 21, .v 22, .v 23, .v 24, .v 25, .v 26, .v 27, .v 28, .v 29, .v 30, .v 31], [.v 64, .v 65, .v 66, .v 67, .v 68, .v 69, .v 70, .v 71, .v 72, .v 73, .v 74, .v 75, .v 76, .v 77, .v 78, .v 79]], .call 128 55 [[.v 16, .v 17, .v 18, .v 19, .v 20, .v 21, .v 22, .v 23, .v 24, .v 25, .v 26, .v 27, .v 28, .v 29, .v 30, .v 31], [.v 64, .v 65, .v 66, .v 67, .v 68, .v 69, .v 70, .v 71, .v 72, .v 73, .v 74, .v 75, .v 76, .v 77, .v 78, .v 79]] 16, .need 52 [[.v 128, .v 129, .v 130, .v 131, .v 132, .v 133, .v 134, .v 135, .v 136, .v 137, .v 138, .v 139, .v 140, .v 141, .v 142, .v 143]], .call 144 52 [[.v 128, .v 129, .v 130, .v 131, .v 132, .v 133, .v 134, .v 135, .v 136, .v 137, .v 138, .v 139, .v 140, .v 141, .v 142, .v 143]] 32, .bin 176 .and .u8 (.v 96) (.l 1), .bin 177 .shl .u8 (.v 176) (.l 7), .bin 178 .or .u8 (.v 175) (.v 177)]) (refs := [.v 144, .v 145, .v 146, .v 147, .v 148, .v 149, .v 150, .v 151, .v 152, .v 153, .v 154, .v 155, .v 156, .v 157, .v 158, .v 159, .v 160, .v 161, .v 162, .v 163, .v 164, .v 165, .v 166, .v 167, .v 168, .v 169, .v 170, .v 171, .v 172, .v 173, .v 174, .v 178]) (by kernel_rfl) fun ρ hρ hd => ?_
  have ea := seg0 la hρ
  have g0 : seg ρ 0 16 = pX a := by rw [← ea]; rfl
  have g16 : seg ρ 16 16 = pY a := by rw [← ea]; rfl
  have g32 : seg ρ 32 16 = pZ a := by rw [← ea]; rfl
  have f0 : FF (seg ρ 0 16) := by rw [g0]; exact hp.x
  have f16 : FF (seg ρ 16 16) := by rw [g16]; exact hp.y
  have f32 : FF (seg ρ 32 16) := by rw [g32]; exact hp.z
  simp only [D_nil, D_add, D_sub, D_mul, D_and, D_or, D_xor, D_shl, D_shr, D_andNot, D_quo, D_rem, D_add_i64, D_sub_i64, D_mul_i64, D_add_u32, D_sub_u32, D_mul_u32, D_add_u8, D_sub_u8, D_mul_u8, D_eql, D_neq, D_lss, D_leq, D_gtr, D_geq, D_not, D_conv, D_eqs, D_call, D_cond, D_need, D_idx, D_sel, D_upd, D_shv, D_beq, List.map_cons, List.map_nil, Ref.den] at hd
  obtain ⟨h64, h80, h96, h128, h144, h176, h177, h178, -⟩ := hd
  have s64 : seg ρ 64 16 = powF (seg ρ 32 16) (PP - 2) 256 := seg_of h64 (powF_ff f32 _ _).len
  have f64 : FF (seg ρ 64 16) := by rw [s64]; exact powF_ff f32 _ _
  have s80 : seg ρ 80 16 = mulF (seg ρ 0 16) (seg ρ 64 16) := seg_of h80 (mulF_ok f0 f64).1.len
  have f80 : FF (seg ρ 80 16) := by rw [s80]; exact (mulF_ok f0 f64).1
  have s96 : seg ρ 96 32 = dg 256 32 (dv 65536 (seg ρ 80 16) % PP) := seg_of h96 (dg_len _ _ _)
  have s128 : seg ρ 128 16 = mulF (seg ρ 16 16) (seg ρ 64 16) := seg_of h128 (mulF_ok f16 f64).1.len
  have f128 : FF (seg ρ 128 16) := by rw [s128]; exact (mulF_ok f16 f64).1
  have s144 : seg ρ 144 32 = dg 256 32 (dv 65536 (seg ρ 128 16) % PP) := seg_of h144 (dg_len _ _ _)
  have eE : encF a = dg 256 32 (dv 65536 (seg ρ 128 16) % PP + H255 * (dv 65536 (seg ρ 80 16) % PP % 2)) := by
    unfold encF; rw [s128, s80, s64, g0, g16, g32]
  rw [eE]
  have bx := rmod (dv 65536 (seg ρ 80 16))
  have b_y := rmod (dv 65536 (seg ρ 128 16))
  generalize dv 65536 (seg ρ 80 16) % PP = X at *
  generalize dv 65536 (seg ρ 128 16) % PP = Y at *
  have r96 : ρ 96 = X % 256 := congrArg (fun l => l.getD 0 0) s96
  have e176 := k_and 1 (by decide) rfl h176
  rw [show (2 : Int) ^ 1 = 2 by decide, r96] at e176
  have e176 : ρ 176 = X % 2 := by omega
  have b176 : ρ 176 = 0 ∨ ρ 176 = 1 := by omega
  have e177 := shl7 b176 h177
  rw [e177] at h178
  have dY : Dig 256 (seg ρ 144 32) := by rw [s144]; exact dg_dig (by decide) _ _
  have vY : dv 256 (seg ρ 144 32) = Y := by rw [s144]; exact dv_dg_of (by decide) b_y.1 (by omega)
  obtain ⟨l1, l2, l3, l4⟩ := last_split vY dY
  have l1 : dv 256 (seg ρ 144 31) + 256 ^ 31 * ρ 175 = Y := l1
  have l3 : 0 ≤ ρ 175 ∧ ρ 175 < 256 := l3
  have hlt : ρ 175 < 128 := by
    rcases Int.lt_or_le (ρ 175) 128 with h | h
    · exact h
    · have : 256 ^ 31 * 128 ≤ 256 ^ 31 * ρ 175 := Int.mul_le_mul_of_nonneg_left h (by omega)
      omega
  have e178 := or_sign ⟨l3.1, hlt⟩ b176 h178
  refine ⟨by simp only [G_nil, G_bin, G_cmp, G_not, G_conv, G_eqs, G_call, G_cond, G_need, G_idx, G_sel, G_upd, G_shv, G_beq, List.map_cons, List.map_nil, Ref.den]; exact ⟨f32, ⟨f0, f64⟩, f80, ⟨f16, f64⟩, f128, trivial⟩, ?_⟩
  show seg ρ 144 31 ++ [ρ 178] = _
  refine dg_eq (by decide) (by rw [List.length_append, seg_len]; rfl) ⟨fun x hx => ?_⟩ ?_
  · rcases List.mem_append.1 hx with hx | hx
    · exact l4.d x hx
    · rcases List.mem_singleton.1 hx with rfl
      rw [e178]; omega
  · rw [dv_last, seg_len, e178, e176, ← h31.1, ← l1, Int.mul_add, Int.mul_assoc]; omega
theorem hg58 (a : List Int) : hfns.g 58 [a] = if timesZ (rootT (dv 65536 a)) (rootT (dv 65536 a)) % PP = dv 65536 a % PP then dg 256 32 (rootT (dv 65536 a) % PP) ++ [1] else dg 256 32 0 ++ [0] := by rw [show hfns.g 58 = sfns.g 58 from rfl, sg58]
def cHDec : Ctr := ⟨42, 124, [.arr .u8 32], [.arr .i64 64, .bool]⟩
theorem okHDec : CtrOK Try.prog hfns cHDec := by
  refine CtrOK.of okHT2 mixed (lf := 300) (d := 5) rfl fun w vs xs ha _ => ?_
  obtain ⟨v, a, rfl, rfl, ⟨la, -, ia⟩⟩ := open1 ha
  have bA := bd32 la ia
  have dA : Dig 256 a := dig8 ia
  have hP := PP_lt
  have hH := H255_lt
  have h31 := H31
  obtain ⟨A, hA⟩ : ∃ A, A = dv 256 a := ⟨_, rfl⟩
  rw [← hA] at bA
  have esg : hfns.g cHDec.j [a] = if okF A then decF A ++ [1] else List.replicate 64 0 ++ [0] := by rw [hA]; rfl
  rw [esg]
  obtain ⟨Y, hY⟩ : ∃ Y, Y = A % H255 := ⟨_, rfl⟩
  have bY : 0 ≤ Y ∧ Y < H255 := by rw [hY]; exact ⟨Int.emod_nonneg A (by omega), Int.emod_lt_of_pos A hH.1⟩
  have eO : okF A ↔ Y < PP ∧ rtOK (dv 65536 (dx2 Y)) ∧ ¬ (dr Y = 0 ∧ A / H255 = 1) := by rw [hY]; exact Iff.rfl
  have eR : drr A = if dr Y % 2 = A / H255 then dr Y else (0 - dr Y) % PP := by rw [hY]; rfl
  have eF : decF A = four (pairs16 (dg 256 32 (drr A))) (pairs16 (dg 256 32 Y)) oneF (mulF (pairs16 (dg 256 32 (drr A))) (pairs16 (dg 256 32 Y))) := by rw [hY]; rfl
  have bR : 0 ≤ dr Y ∧ dr Y < PP := rmod _
  obtain ⟨R, hR⟩ : ∃ R, R = dr Y := ⟨_, rfl⟩
  rw [← hR] at eO eR bR
  have hsg : A / H255 = 0 ∨ A / H255 = 1 := by
    have : 0 ≤ A / H255 := Int.ediv_nonneg bA.1 (by omega)
    have : A / H255 < 2 := Int.ediv_lt_of_lt_mul hH.1 (by omega)
    omega
  have start : ∀ ρ : Nat → Int, (∀ i, i < 32 → ρ i = flat [a] i) → binZ .shr .u8 (ρ 31) 7 = some (ρ 32) → binZ .and .u8 (ρ 31) 127 = some (ρ 33) → ρ 32 = A / H255 ∧ seg ρ 0 31 ++ [ρ 33] = dg 256 32 Y := by
    intro ρ hρ g1 g2
    have ea := seg0 la hρ
    obtain ⟨l1, l2, l3, l4⟩ := last_split (ρ := ρ) (o := 0) (A := A) (by rw [ea, hA]) (by rw [ea]; exact dA)
    simp only [Nat.zero_add] at l1 l3
    have e1 := shr7 l3 g1
    have e2 := and127 l3 g2
    have hr : A = H255 * (ρ 31 / 128) + (dv 256 (seg ρ 0 31) + 256 ^ 31 * (ρ 31 % 128)) := by
      have h5 := Int.emod_add_mul_ediv (ρ 31) 128
      rw [← l1, ← h31.1, Int.mul_assoc, ← Int.add_assoc, Int.add_comm (256 ^ 31 * (128 * (ρ 31 / 128))), Int.add_assoc, ← Int.mul_add, Int.add_comm (128 * (ρ 31 / 128)), h5]
    have hs : 0 ≤ dv 256 (seg ρ 0 31) + 256 ^ 31 * (ρ 31 % 128) ∧ dv 256 (seg ρ 0 31) + 256 ^ 31 * (ρ 31 % 128) < H255 := by
      have p0 : 0 ≤ (256 : Int) ^ 31 * (ρ 31 % 128) := Int.mul_nonneg (by omega) (by omega)
      have p1 : (256 : Int) ^ 31 * (ρ 31 % 128) ≤ 256 ^ 31 * 127 := Int.mul_le_mul_of_nonneg_left (by omega) (by omega)
      omega
    have hs2 : dv 256 (seg ρ 0 31 ++ [ρ 33]) = dv 256 (seg ρ 0 31) + 256 ^ 31 * (ρ 31 % 128) := by rw [dv_last, seg_len, e2]
    have hd33 : Dig 256 (seg ρ 0 31 ++ [ρ 33]) := ⟨fun x hx => by
      rcases List.mem_append.1 hx with hx | hx
      · exact l4.d x hx
      · rcases List.mem_singleton.1 hx with rfl
        rw [e2]; omega⟩
    generalize dv 256 (seg ρ 0 31) + 256 ^ 31 * (ρ 31 % 128) = s at *
    refine ⟨?_, dg_eq (by decide) (by rw [List.length_append, seg_len]; rfl) hd33 ?_⟩
    · rw [e1, hr, Int.add_comm, Int.add_mul_ediv_left _ _ (by omega), Int.ediv_eq_zero_of_lt hs.1 hs.2, Int.zero_add]
    · rw [hs2, hY, hr, Int.add_comm, Int.add_mul_emod_self_left, Int.emod_eq_of_lt hs.1 hs.2]
  have vY : dv 256 (dg 256 32 Y) = Y := dv_dg_of (by decide) bY.1 (Int.lt_trans bY.2 (by decide))
  have fY := (in_ff (dg_len 256 32 Y) (dg_dig (by decide) _ _)).1
  by_cases c1 : Y < PP
  · by_cases c2 : rtOK (dv 65536 (dx2 Y))
    · by_cases c3 : R = 0
      · by_cases c4 : A / H255 = 1
        · refine Go.Sx.Way.of (dec := [false,false,true,true]) (fs := [.bin 32 .shr .u8 (.v 31) (.l 7), .bin 33 .and .u8 (.v 31) (.l 127), .need 64 [[.v 0, .v 1, .v 2, .v 3, .v 4, .v 5, .v 6, .v 7, .v 8, .v 9, .v 10, .v 11, .v 12, .v 13, .v 14, .v 15, .v 16, .v 17, .v 18, .v 19, .v 20, .v 21, .v 22, .v 23, .v 24, .v 25, .v 26, .v 27, .v 28, .v 29, .v 30, .v 33]], .call 34 64 [[.v 0, .v 1, .v 2, .v 3, .v 4, .v 5, .v 6, .v 7, .v 8, .v 9, .v 10, .v 11, .v 12, .v 13, .v 14, .v 15, .v 16, .v 17, .v 18, .v 19, .v 20, .v 21, .v 22, .v 23, .v 24, .v 25, .v 26, .v 27, .v 28, .v 29, .v 30, .v 33]] 1, .not 35 (.v 34), .cond 35 false, .need 51 [[.v 0, .v 1, .v 2, .v 3, .v 4, .v 5, .v 6, .v 7, .v 8, .v 9, .v 10, .v 11, .v 12, .v 13, .v 14, .v 15, .v 16, .v 17, .v 18, .v 19, .v 20, .v 21, .v 22, .v 23, .v 24, .v 25, .v 26, .v 27, .v 28, .v 29, .v 30, .v 33]], .call 36 51 [[.v 0, .v 1, .v 2, .v 3, .v 4, .v 5, .v 6, .v 7, .v 8, .v 9, .v 10, .v 11, .v 12, .v 13, .v 14, .v 15, .v 16, .v 17, .v 18, .v 19, .v 20, .v 21, .v 22, .v 23, .v 24, .v 25, .v 26, .v 27, .v 28, .v 29, .v 30, .v 33]] 16, .need 55 [[.v 36, .v 37, .v 38, .v 39, .v 40, .v 41, .v 42, .v 43, .v 44, .v 45, .v 46, .v 47, .v 48, .v 49, .v 50, .v 51], [.v 36, .v 37, .v 38, .v 39, .v 40, .v 41, .v 42, .v 43, .v 44, .v 45, .v 46, .v 47, .v 48, .v 49, .v 50, .v 51]], .call 52 55 [[.v 36, .v 37, .v 38, .v 39, .v 40, .v 41, .v 42, .v 43, .v 44, .v 45, .v 46, .v 47, .v 48, .v 49, .v 50, .v 51], [.v 36, .v 37, .v 38, .v 39, .v 40, .v 41, .v 42, .v 43, .v 44, .v 45, .v 46, .v 47, .v 48, .v 49, .v 50, .v 51]] 16, .need 54 [[.v 52, .v 53, .v 54, .v 55, .v 56, .v 57, .v 58, .v 59, .v 60, .v 61, .v 62, .v 63, .v 64, .v 65, .v 66, .v 67], [.l 1, .l 0, .l 0, .l 0, .l 0, .l 0, .l 0, .l 0, .l 0, .l 0, .l 0, .l 0, .l 0, .l 0, .l 0, .l 0]], .call 68 54 [[.v 52, .v 53, .v 54, .v 55, .v 56, .v 57, .v 58, .v 59, .v 60, .v 61, .v 62, .v 63, .v 64, .v 65, .v 66, .v 67], [.l 1, .l 0, .l 0, .l 0, .l 0, .l 0, .l 0, .l 0, .l 0, .l 0, .l 0, .l 0, .l 0, .l 0, .l 0, .l 0]] 16, .need 120 [], .call 84 120 [] 16, .need 55 [[.v 84, .v 85, .v 86, .v 87, .v 88, .v 89, .v 90, .v 91, .v 92, .v 93, .v 94, .v 95, .v 96, .v 97, .v 98, .v 99], [.v 52, .v 53, .v 54, .v 55, .v 56, .v 57, .v 58, .v 59, .v 60, .v 61, .v 62, .v 63, .v 64, .v 65, .v 66, .v 67]], .call 100 55 [[.v 84, .v 85, .v 86, .v 87, .v 88, .v 89, .v 90, .v 91, .v 92, .v 93, .v 94, .v 95, .v 96, .v 97, .v 98, .v 99], [.v 52, .v 53, .v 54, .v 55, .v 56, .v 57, .v 58, .v 59, .v 60, .v 61, .v 62, .v 63, .v 64, .v 65, .v 66, .v 67]] 16, .need 53 [[.v 100, .v 101, .v 102, .v 103, .v 104, .v 105, .v 106, .v 107, .v 108, .v 109, .v 110, .v 111, .v 112, .v 113, .v 114, .v 115], [.l 1, .l 0, .l 0, .l 0, .l 0, .l 0, .l 0, .l 0, .l 0, .l 0, .l 0, .l 0, .l 0, .l 0, .l 0, .l 0]], .call 116 53 [[.v 100, .v 101, .v 102, .v 103, .v 104, .v 105, .v 106, .v 107, .v 108, .v 109, .v 110, .v 111, .v 112, .v 113, .v 114, .v 115], [.l 1, .l 0, .l 0, .l 0, .l 0, .l 0, .l 0, .l 0, .l 0, .l 0, .l 0, .l 0, .l 0, .l 0, .l 0, .l 0]] 16, .need 57 [[.v 116, .v 117, .v 118, .v 119, .v 120, .v 121, .v 122, .v 123, .v 124, .v 125, .v 126, .v 127, .v 128, .v 129, .v 130, .v 131]], .call 132 57 [[.v 116, .v 117, .v 118, .v 119, .v 120, .v 121, .v 122, .v 123, .v 124, .v 125, .v 126, .v 127, .v 128, .v 129, .v 130, .v 131]] 16, .need 55 [[.v 68, .v 69, .v 70, .v 71, .v 72, .v 73, .v 74, .v 75, .v 76, .v 77, .v 78, .v 79, .v 80, .v 81, .v 82, .v 83], [.v 132, .v 133, .v 134, .v 135, .v 136, .v 137, .v 138, .v 139, .v 140, .v 141, .v 142, .v 143, .v 144, .v 145, .v 146, .v 147]], .call 148 55 [[.v 68, .v 69, .v 70, .v 71, .v 72, .v 73, .v 74, .v 75, .v 76, .v 77, .v 78, .v 79, .v 80, .v 81, .v 82, .v 83], [.v 132, .v 133, .v 134, .v 135, .v 136, .v 137, .v 138, .v 139, .v 140, .v 141, .v 142, .v 143, .v 144, .v 145, .v 146, .v 147]] 16, .need 58 [[.v 148, .v 149, .v 150, .v 151, .v 152, .v 153, .v 154, .v 155, .v 156, .v 157, .v 158, .v 159, .v 160, .v 161, .v 162, .v 163]], .call 164 58 [[.v 148, .v 149, .v 150, .v 151, .v 152, .v 153, .v 154, .v 155, .v 156, .v 157, .v 158, .v 159, .v 160, .v 161, .v 162, .v 163]] 33, .not 197 (.v 196), .cond 197 false, .eqs 198 [(.v 164, .l 0), (.v 165, .l 0), (.v 166, .l 0), (.v 167, .l 0), (.v 168, .l 0), (.v 169, .l 0), (.v 170, .l 0), (.v 171, .l 0), (.v 172, .l 0), (.v 173, .l 0), (.v 174, .l 0), (.v 175, .l 0), (.v 176, .l 0), (.v 177, .l 0), (.v 178, .l 0), (.v 179, .l 0), (.v 180, .l 0), (.v 181, .l 0), (.v 182, .l 0), (.v 183, .l 0), (.v 184, .l 0), (.v 185, .l 0), (.v 186, .l 0), (.v 187, .l 0), (.v 188, .l 0), (.v 189, .l 0), (.v 190, .l 0), (.v 191, .l 0), (.v 192, .l 0), (.v 193, .l 0), (.v 194, .l 0), (.v 195, .l 0)], .cond 198 true, .cmp 199 .eql (.v 32) (.l 1), .cond 199 true]) (refs := [.l 0, .l 0, .l 0, .l 0, .l 0, .l 0, .l 0, .l 0, .l 0, .l 0, .l 0, .l 0, .l 0, .l 0, .l 0, .l 0, .l 0, .l 0, .l 0, .l 0, .l 0, .l 0, .l 0, .l 0, .l 0, .l 0, .l 0, .l 0, .l 0, .l 0, .l 0, .l 0, .l 0, .l 0, .l 0, .l 0, .l 0, .l 0, .l 0, .l 0, .l 0, .l 0, .l 0, .l 0, .l 0, .l 0, .l 0, .l 0, .l 0, .l 0, .l 0, .l 0, .l 0, .l 0, .l 0, .l 0, .l 0, .l 0, .l 0, .l 0, .l 0, .l 0, .l 0, .l 0, .l 0]) (by kernel_rfl) fun ρ hρ hd => ?_
          simp only [D_nil, D_add, D_sub, D_mul, D_and, D_or, D_xor, D_shl, D_shr, D_andNot, D_quo, D_rem, D_add_i64, D_sub_i64, D_mul_i64, D_add_u32, D_sub_u32, D_mul_u32, D_add_u8, D_sub_u8, D_mul_u8, D_eql, D_neq, D_lss, D_leq, D_gtr, D_geq, D_not, D_conv, D_eqs, D_call, D_cond, D_need, D_idx, D_sel, D_upd, D_shv, D_beq, List.map_cons, List.map_nil, Ref.den] at hd
          obtain ⟨h32, h33, h34, h35, h36, h52, h68, h84, h100, h116, h132, h148, h164, h197, h198, h199, -⟩ := hd
          obtain ⟨e32, e33⟩ := start ρ hρ h32 h33
          have s34 : ρ 34 = b2i (decide (dv 256 (seg ρ 0 31 ++ [ρ 33]) < PP)) := h34 0 (by decide)
          rw [e33, vY] at s34
          have k35 := not_bit h35 (show ρ 34 = 1 by rw [s34, decide_eq_true c1]; rfl)
          have s36 : seg ρ 36 16 = pairs16 (dg 256 32 Y) := by
            have := seg_of (ρ := ρ) (n := 36) (g := pairs16 (seg ρ 0 31 ++ [ρ 33])) h36 (by rw [e33]; exact fY.len)
            rw [e33] at this; exact this
          have f36 : FF (seg ρ 36 16) := by rw [s36]; exact fY
          have s52 : seg ρ 52 16 = mulF (seg ρ 36 16) (seg ρ 36 16) := seg_of h52 (mulF_ok f36 f36).1.len
          have f52 : FF (seg ρ 52 16) := by rw [s52]; exact (mulF_ok f36 f36).1
          have s68 : seg ρ 68 16 = minF (seg ρ 52 16) ([1, 0, 0, 0, 0, 0, 0, 0, 0, 0, 0, 0, 0, 0, 0, 0]) := seg_of h68 (minF_ok f52 oneF_ff).1.len
          have f68 : FF (seg ρ 68 16) := by rw [s68]; exact (minF_ok f52 oneF_ff).1
          have s84 : seg ρ 84 16 = dL := seg_of h84 dL_ok.1.len
          have f84 : FF (seg ρ 84 16) := by rw [s84]; exact dL_ok.1
          have s100 : seg ρ 100 16 = mulF (seg ρ 84 16) (seg ρ 52 16) := seg_of h100 (mulF_ok f84 f52).1.len
          have f100 : FF (seg ρ 100 16) := by rw [s100]; exact (mulF_ok f84 f52).1
          have s116 : seg ρ 116 16 = plusF (seg ρ 100 16) ([1, 0, 0, 0, 0, 0, 0, 0, 0, 0, 0, 0, 0, 0, 0, 0]) := seg_of h116 (plusF_ok f100 oneF_ff).1.len
          have f116 : FF (seg ρ 116 16) := by rw [s116]; exact (plusF_ok f100 oneF_ff).1
          have s132 : seg ρ 132 16 = powF (seg ρ 116 16) (PP - 2) 256 := seg_of h132 (powF_ff f116 _ _).len
          have f132 : FF (seg ρ 132 16) := by rw [s132]; exact powF_ff f116 _ _
          have s148 : seg ρ 148 16 = mulF (seg ρ 68 16) (seg ρ 132 16) := seg_of h148 (mulF_ok f68 f132).1.len
          have f148 : FF (seg ρ 148 16) := by rw [s148]; exact (mulF_ok f68 f132).1
          have e148 : seg ρ 148 16 = dx2 Y := by
            rw [s148, s68, s132, s116, s100, s52, s84, s36]
            exact (show dx2 Y = _ by rw [dx2]; rfl).symm
          have h164 : ∀ i, i < 33 → ρ (164 + i) = (if timesZ (rootT (dv 65536 (dx2 Y))) (rootT (dv 65536 (dx2 Y))) % PP = dv 65536 (dx2 Y) % PP then dg 256 32 (R) ++ [1] else dg 256 32 0 ++ [0]).getD i 0 := fun i hi => by
            have h : ρ (164 + i) = (hfns.g 58 [seg ρ 148 16]).getD i 0 := h164 i hi
            rw [hg58, e148] at h; rw [h, hR, dr]
          have c2' := c2
          unfold rtOK at c2'
          simp only [if_pos c2'] at h164
          obtain ⟨s164, r196⟩ := splitN (R := [1]) (dg_len 256 32 (R)) h164
          have k197 := not_bit h197 (show ρ 196 = 1 from r196 0 (by decide))
          have v164 : dv 256 (seg ρ 164 32) = R := by rw [s164]; exact dv_dg_of (by decide) bR.1 (Int.lt_trans bR.2 (by decide))
          have q198 : ρ 198 = b2i (decide (seg ρ 164 32 = [0, 0, 0, 0, 0, 0, 0, 0, 0, 0, 0, 0, 0, 0, 0, 0, 0, 0, 0, 0, 0, 0, 0, 0, 0, 0, 0, 0, 0, 0, 0, 0])) := h198.trans (congrArg b2i eqs_lists)
          have hz : seg ρ 164 32 = [0, 0, 0, 0, 0, 0, 0, 0, 0, 0, 0, 0, 0, 0, 0, 0, 0, 0, 0, 0, 0, 0, 0, 0, 0, 0, 0, 0, 0, 0, 0, 0] ↔ R = 0 := ⟨fun h => by rw [← v164, h]; decide, fun h => by rw [s164, h]; decide⟩
          have k198 := bit_true q198 (decide_eq_true (hz.2 c3))
          have k199 := bit_true h199 (decide_eq_true (e32.trans c4))
          rw [if_neg (fun h => (eO.1 h).2.2 ⟨c3, c4⟩)]
          exact ⟨by simp only [G_nil, G_bin, G_cmp, G_not, G_conv, G_eqs, G_call, G_cond, G_need, G_idx, G_sel, G_upd, G_shv, G_beq, List.map_cons, List.map_nil, Ref.den]; exact ⟨trivial, k35, trivial, ⟨f36, f36⟩, ⟨f52, oneF_ff⟩, trivial, ⟨f84, f52⟩, ⟨f100, oneF_ff⟩, f116, ⟨f68, f132⟩, f148, k197, k198, k199, trivial⟩, rfl⟩
        · refine Go.Sx.Way.of (dec := [false,false,true,false,false]) (fs := [.bin 32 .shr .u8 (.v 31) (.l 7), .bin 33 .and .u8 (.v 31) (.l 127), .need 64 [[.v 0, .v 1, .v 2, .v 3, .v 4, .v 5, .v 6, .v 7, .v 8, .v 9, .v 10, .v 11, .v 12, .v 13, .v 14, .v 15, .v 16, .v 17, .v 18, .v 19, .v 20, .v 21, .v 22, .v 23, .v 24, .v 25, .v 26, .v 27, .v 28, .v 29, .v 30, .v 33]], .call 34 64 [[.v 0, .v 1, .v 2, .v 3, .v 4, .v 5, .v 6, .v 7, .v 8, .v 9, .v 10, .v 11, .v 12, .v 13, .v 14, .v 15, .v 16, .v 17, .v 18, .v 19, .v 20, .v 21, .v 22, .v 23, .v 24, .v 25, .v 26, .v 27, .v 28, .v 29, .v 30, .v 33]] 1, .not 35 (.v 34), .cond 35 false, .need 51 [[.v 0, .v 1, .v 2, .v 3, .v 4, .v 5, .v 6, .v 7, .v 8, .v 9, .v 10, .v 11, .v 12, .v 13, .v 14, .v 15, .v 16, .v 17, .v 18, .v 19, .v 20, .v 21, .v 22, .v 23, .v 24, .v 25, .v 26, .v 27, .v 28, .v 29, .v 30, .v 33]], .call 36 51 [[.v 0, .v 1, .v 2, .v 3, .v 4, .v 5, .v 6, .v 7, .v 8, .v 9, .v 10, .v 11, .v 12, .v 13, .v 14, .v 15, .v 16, .v 17, .v 18, .v 19, .v 20, .v 21, .v 22, .v 23, .v 24, .v 25, .v 26, .v 27, .v 28, .v 29, .v 30, .v 33]] 16, .need 55 [[.v 36, .v 37, .v 38, .v 39, .v 40, .v 41, .v 42, .v 43, .v 44, .v 45, .v 46, .v 47, .v 48, .v 49, .v 50, .v 51], [.v 36, .v 37, .v 38, .v 39, .v 40, .v 41, .v 42, .v 43, .v 44, .v 45, .v 46, .v 47, .v 48, .v 49, .v 50, .v 51]], .call 52 55 [[.v 36, .v 37, .v 38, .v 39, .v 40, .v 41, .v 42, .v 43, .v 44, .v 45, .v 46, .v 47, .v 48, .v 49, .v 50, .v 51], [.v 36, .v 37, .v 38, .v 39, .v 40, .v 41, .v 42, .v 43, .v 44, .v 45, .v 46, .v 47, .v 48, .v 49, .v 50, .v 51]] 16, .need 54 [[.v 52, .v 53, .v 54, .v 55, .v 56, .v 57, .v 58, .v 59, .v 60, .v 61, .v 62, .v 63, .v 64, .v 65, .v 66, .v 67], [.l 1, .l 0, .l 0, .l 0, .l 0, .l 0, .l 0, .l 0, .l 0, .l 0, .l 0, .l 0, .l 0, .l 0, .l 0, .l 0]], .call 68 54 [[.v 52, .v 53, .v 54, .v 55, .v 56, .v 57, .v 58, .v 59, .v 60, .v 61, .v 62, .v 63, .v 64, .v 65, .v 66, .v 67], [.l 1, .l 0, .l 0, .l 0, .l 0, .l 0, .l 0, .l 0, .l 0, .l 0, .l 0, .l 0, .l 0, .l 0, .l 0, .l 0]] 16, .need 120 [], .call 84 120 [] 16, .need 55 [[.v 84, .v 85, .v 86, .v 87, .v 88, .v 89, .v 90, .v 91, .v 92, .v 93, .v 94, .v 95, .v 96, .v 97, .v 98, .v 99], [.v 52, .v 53, .v 54, .v 55, .v 56, .v 57, .v 58, .v 59, .v 60, .v 61, .v 62, .v 63, .v 64, .v 65, .v 66, .v 67]], .call 100 55 [[.v 84, .v 85, .v 86, .v 87, .v 88, .v 89, .v 90, .v 91, .v 92, .v 93, .v 94, .v 95, .v 96, .v 97, .v 98, .v 99], [.v 52, .v 53, .v 54, .v 55, .v 56, .v 57, .v 58, .v 59, .v 60, .v 61, .v 62, .v 63, .v 64, .v 65, .v 66, .v 67]] 16, .need 53 [[.v 100, .v 101, .v 102, .v 103, .v 104, .v 105, .v 106, .v 107, .v 108, .v 109, .v 110, .v 111, .v 112, .v 113, .v 114, .v 115], [.l 1, .l 0, .l 0, .l 0, .l 0, .l 0, .l 0, .l 0, .l 0, .l 0, .l 0, .l 0, .l 0, .l 0, .l 0, .l 0]], .call 116 53 [[.v 100, .v 101, .v 102, .v 103, .v 104, .v 105, .v 106, .v 107, .v 108, .v 109, .v 110, .v 111, .v 112, .v 113, .v 114, .v 115], [.l 1, .l 0, .l 0, .l 0, .l 0, .l 0, .l 0, .l 0, .l 0, .l 0, .l 0, .l 0, .l 0, .l 0, .l 0, .l 0]] 16, .need 57 [[.v 116, .v 117, .v 118, .v 119, .v 120, .v 121, .v 122, .v 123, .v 124, .v 125, .v 126, .v 127, .v 128, .v 129, .v 130, .v 131]], .call 132 57 [[.v 116, .v 117, .v 118, .v 119, .v 120, .v 121, .v 122, .v 123, .v 124, .v 125, .v 126, .v 127, .v 128, .v 129, .v 130, .v 131]] 16, .need 55 [[.v 68, .v 69, .v 70, .v 71, .v 72, .v 73, .v 74, .v 75, .v 76, .v 77, .v 78, .v 79, .v 80, .v 81, .v 82, .v 83], [.v 132, .v 133, .v 134, .v 135, .v 136, .v 137, .v 138, .v 139, .v 140, .v 141, .v 142, .v 143, .v 144, .v 145, .v 146, .v 147]], .call 148 55 [[.v 68, .v 69, .v 70, .v 71, .v 72, .v 73, .v 74, .v 75, .v 76, .v 77, .v 78, .v 79, .v 80, .v 81, .v 82, .v 83], [.v 132, .v 133, .v 134, .v 135, .v 136, .v 137, .v 138, .v 139, .v 140, .v 141, .v 142, .v 143, .v 144, .v 145, .v 146, .v 147]] 16, .need 58 [[.v 148, .v 149, .v 150, .v 151, .v 152, .v 153, .v 154, .v 155, .v 156, .v 157, .v 158, .v 159, .v 160, .v 161, .v 162, .v 163]], .call 164 58 [[.v 148, .v 149, .v 150, .v 151, .v 152, .v 153, .v 154, .v 155, .v 156, .v 157, .v 158, .v 159, .v 160, .v 161, .v 162, .v 163]] 33, .not 197 (.v 196), .cond 197 false, .eqs 198 [(.v 164, .l 0), (.v 165, .l 0), (.v 166, .l 0), (.v 167, .l 0), (.v 168, .l 0), (.v 169, .l 0), (.v 170, .l 0), (.v 171, .l 0), (.v 172, .l 0), (.v 173, .l 0), (.v 174, .l 0), (.v 175, .l 0), (.v 176, .l 0), (.v 177, .l 0), (.v 178, .l 0), (.v 179, .l 0), (.v 180, .l 0), (.v 181, .l 0), (.v 182, .l 0), (.v 183, .l 0), (.v 184, .l 0), (.v 185, .l 0), (.v 186, .l 0), (.v 187, .l 0), (.v 188, .l 0), (.v 189, .l 0), (.v 190, .l 0), (.v 191, .l 0), (.v 192, .l 0), (.v 193, .l 0), (.v 194, .l 0), (.v 195, .l 0)], .cond 198 true, .cmp 199 .eql (.v 32) (.l 1), .cond 199 false, .bin 200 .and .u8 (.v 164) (.l 1), .cmp 201 .neq (.v 200) (.v 32), .cond 201 false, .need 51 [[.v 164, .v 165, .v 166, .v 167, .v 168, .v 169, .v 170, .v 171, .v 172, .v 173, .v 174, .v 175, .v 176, .v 177, .v 178, .v 179, .v 180, .v 181, .v 182, .v 183, .v 184, .v 185, .v 186, .v 187, .v 188, .v 189, .v 190, .v 191, .v 192, .v 193, .v 194, .v 195]], .call 202 51 [[.v 164, .v 165, .v 166, .v 167, .v 168, .v 169, .v 170, .v 171, .v 172, .v 173, .v 174, .v 175, .v 176, .v 177, .v 178, .v 179, .v 180, .v 181, .v 182, .v 183, .v 184, .v 185, .v 186, .v 187, .v 188, .v 189, .v 190, .v 191, .v 192, .v 193, .v 194, .v 195]] 16, .need 55 [[.v 202, .v 203, .v 204, .v 205, .v 206, .v 207, .v 208, .v 209, .v 210, .v 211, .v 212, .v 213, .v 214, .v 215, .v 216, .v 217], [.v 36, .v 37, .v 38, .v 39, .v 40, .v 41, .v 42, .v 43, .v 44, .v 45, .v 46, .v 47, .v 48, .v 49, .v 50, .v 51]], .call 218 55 [[.v 202, .v 203, .v 204, .v 205, .v 206, .v 207, .v 208, .v 209, .v 210, .v 211, .v 212, .v 213, .v 214, .v 215, .v 216, .v 217], [.v 36, .v 37, .v 38, .v 39, .v 40, .v 41, .v 42, .v 43, .v 44, .v 45, .v 46, .v 47, .v 48, .v 49, .v 50, .v 51]] 16]) (refs := [.v 202, .v 203, .v 204, .v 205, .v 206, .v 207, .v 208, .v 209, .v 210, .v 211, .v 212, .v 213, .v 214, .v 215, .v 216, .v 217, .v 36, .v 37, .v 38, .v 39, .v 40, .v 41, .v 42, .v 43, .v 44, .v 45, .v 46, .v 47, .v 48, .v 49, .v 50, .v 51, .l 1, .l 0, .l 0, .l 0, .l 0, .l 0, .l 0, .l 0, .l 0, .l 0, .l 0, .l 0, .l 0, .l 0, .l 0, .l 0, .v 218, .v 219, .v 220, .v 221, .v 222, .v 223, .v 224, .v 225, .v 226, .v 227, .v 228, .v 229, .v 230, .v 231, .v 232, .v 233, .l 1]) (by kernel_rfl) fun ρ hρ hd => ?_
          simp only [D_nil, D_add, D_sub, D_mul, D_and, D_or, D_xor, D_shl, D_shr, D_andNot, D_quo, D_rem, D_add_i64, D_sub_i64, D_mul_i64, D_add_u32, D_sub_u32, D_mul_u32, D_add_u8, D_sub_u8, D_mul_u8, D_eql, D_neq, D_lss, D_leq, D_gtr, D_geq, D_not, D_conv, D_eqs, D_call, D_cond, D_need, D_idx, D_sel, D_upd, D_shv, D_beq, List.map_cons, List.map_nil, Ref.den] at hd
          obtain ⟨h32, h33, h34, h35, h36, h52, h68, h84, h100, h116, h132, h148, h164, h197, h198, h199, h200, h201, h202, h218, -⟩ := hd
          obtain ⟨e32, e33⟩ := start ρ hρ h32 h33
          have s34 : ρ 34 = b2i (decide (dv 256 (seg ρ 0 31 ++ [ρ 33]) < PP)) := h34 0 (by decide)
          rw [e33, vY] at s34
          have k35 := not_bit h35 (show ρ 34 = 1 by rw [s34, decide_eq_true c1]; rfl)
          have s36 : seg ρ 36 16 = pairs16 (dg 256 32 Y) := by
            have := seg_of (ρ := ρ) (n := 36) (g := pairs16 (seg ρ 0 31 ++ [ρ 33])) h36 (by rw [e33]; exact fY.len)
            rw [e33] at this; exact this
          have f36 : FF (seg ρ 36 16) := by rw [s36]; exact fY
          have s52 : seg ρ 52 16 = mulF (seg ρ 36 16) (seg ρ 36 16) := seg_of h52 (mulF_ok f36 f36).1.len
          have f52 : FF (seg ρ 52 16) := by rw [s52]; exact (mulF_ok f36 f36).1
          have s68 : seg ρ 68 16 = minF (seg ρ 52 16) ([1, 0, 0, 0, 0, 0, 0, 0, 0, 0, 0, 0, 0, 0, 0, 0]) := seg_of h68 (minF_ok f52 oneF_ff).1.len
          have f68 : FF (seg ρ 68 16) := by rw [s68]; exact (minF_ok f52 oneF_ff).1
          have s84 : seg ρ 84 16 = dL := seg_of h84 dL_ok.1.len
          have f84 : FF (seg ρ 84 16) := by rw [s84]; exact dL_ok.1
          have s100 : seg ρ 100 16 = mulF (seg ρ 84 16) (seg ρ 52 16) := seg_of h100 (mulF_ok f84 f52).1.len
          have f100 : FF (seg ρ 100 16) := by rw [s100]; exact (mulF_ok f84 f52).1
          have s116 : seg ρ 116 16 = plusF (seg ρ 100 16) ([1, 0, 0, 0, 0, 0, 0, 0, 0, 0, 0, 0, 0, 0, 0, 0]) := seg_of h116 (plusF_ok f100 oneF_ff).1.len
          have f116 : FF (seg ρ 116 16) := by rw [s116]; exact (plusF_ok f100 oneF_ff).1
          have s132 : seg ρ 132 16 = powF (seg ρ 116 16) (PP - 2) 256 := seg_of h132 (powF_ff f116 _ _).len
          have f132 : FF (seg ρ 132 16) := by rw [s132]; exact powF_ff f116 _ _
          have s148 : seg ρ 148 16 = mulF (seg ρ 68 16) (seg ρ 132 16) := seg_of h148 (mulF_ok f68 f132).1.len
          have f148 : FF (seg ρ 148 16) := by rw [s148]; exact (mulF_ok f68 f132).1
          have e148 : seg ρ 148 16 = dx2 Y := by
            rw [s148, s68, s132, s116, s100, s52, s84, s36]
            exact (show dx2 Y = _ by rw [dx2]; rfl).symm
          have h164 : ∀ i, i < 33 → ρ (164 + i) = (if timesZ (rootT (dv 65536 (dx2 Y))) (rootT (dv 65536 (dx2 Y))) % PP = dv 65536 (dx2 Y) % PP then dg 256 32 (R) ++ [1] else dg 256 32 0 ++ [0]).getD i 0 := fun i hi => by
            have h : ρ (164 + i) = (hfns.g 58 [seg ρ 148 16]).getD i 0 := h164 i hi
            rw [hg58, e148] at h; rw [h, hR, dr]
          have c2' := c2
          unfold rtOK at c2'
          simp only [if_pos c2'] at h164
          obtain ⟨s164, r196⟩ := splitN (R := [1]) (dg_len 256 32 (R)) h164
          have k197 := not_bit h197 (show ρ 196 = 1 from r196 0 (by decide))
          have v164 : dv 256 (seg ρ 164 32) = R := by rw [s164]; exact dv_dg_of (by decide) bR.1 (Int.lt_trans bR.2 (by decide))
          have q198 : ρ 198 = b2i (decide (seg ρ 164 32 = [0, 0, 0, 0, 0, 0, 0, 0, 0, 0, 0, 0, 0, 0, 0, 0, 0, 0, 0, 0, 0, 0, 0, 0, 0, 0, 0, 0, 0, 0, 0, 0])) := h198.trans (congrArg b2i eqs_lists)
          have hz : seg ρ 164 32 = [0, 0, 0, 0, 0, 0, 0, 0, 0, 0, 0, 0, 0, 0, 0, 0, 0, 0, 0, 0, 0, 0, 0, 0, 0, 0, 0, 0, 0, 0, 0, 0] ↔ R = 0 := ⟨fun h => by rw [← v164, h]; decide, fun h => by rw [s164, h]; decide⟩
          have r164 : ρ 164 = R % 256 := congrArg (fun l => l.getD 0 0) s164
          have k198 := bit_true q198 (decide_eq_true (hz.2 c3))
          have k199 := bit_false h199 (decide_eq_false (fun h => c4 (e32.symm.trans h)))
          have e200 := k_and 1 (by decide) rfl h200
          rw [show (2 : Int) ^ 1 = 2 by decide, r164] at e200
          have ev : R % 2 = A / H255 := ev0 c3 c4 hsg
          have k201 := bit_false h201 (decide_eq_false (fun h => h (by rw [e200, e32]; exact mod2 ev)))
          have s202 : seg ρ 202 16 = pairs16 (dg 256 32 (R)) := by
            have := seg_of (ρ := ρ) (n := 202) (g := pairs16 (seg ρ 164 32)) h202 (by rw [s164]; exact (in_ff (dg_len 256 32 _) (dg_dig (by decide) _ _)).1.len)
            rw [s164] at this; exact this
          have f202 : FF (seg ρ 202 16) := by rw [s202]; exact (in_ff (dg_len 256 32 _) (dg_dig (by decide) _ _)).1
          have s218 : seg ρ 218 16 = mulF (seg ρ 202 16) (seg ρ 36 16) := seg_of h218 (mulF_ok f202 f36).1.len
          have f218 : FF (seg ρ 218 16) := by rw [s218]; exact (mulF_ok f202 f36).1
          rw [if_pos (eO.2 ⟨c1, c2, fun h => c4 h.2⟩)]
          refine ⟨by simp only [G_nil, G_bin, G_cmp, G_not, G_conv, G_eqs, G_call, G_cond, G_need, G_idx, G_sel, G_upd, G_shv, G_beq, List.map_cons, List.map_nil, Ref.den]; exact ⟨trivial, k35, trivial, ⟨f36, f36⟩, ⟨f52, oneF_ff⟩, trivial, ⟨f84, f52⟩, ⟨f100, oneF_ff⟩, f116, ⟨f68, f132⟩, f148, k197, k198, k199, k201, trivial, ⟨f202, f36⟩, trivial⟩, ?_⟩
          have e : decF A = seg ρ 202 16 ++ (seg ρ 36 16 ++ (oneF ++ seg ρ 218 16)) := by
            rw [eF, eR, if_pos ev, s218, s202, s36]; rfl
          rw [e]; rfl
      · by_cases c5 : R % 2 = A / H255
        · refine Go.Sx.Way.of (dec := [false,false,false,false]) (fs := [.bin 32 .shr .u8 (.v 31) (.l 7), .bin 33 .and .u8 (.v 31) (.l 127), .need 64 [[.v 0, .v 1, .v 2, .v 3, .v 4, .v 5, .v 6, .v 7, .v 8, .v 9, .v 10, .v 11, .v 12, .v 13, .v 14, .v 15, .v 16, .v 17, .v 18, .v 19, .v 20, .v 21, .v 22, .v 23, .v 24, .v 25, .v 26, .v 27, .v 28, .v 29, .v 30, .v 33]], .call 34 64 [[.v 0, .v 1, .v 2, .v 3, .v 4, .v 5, .v 6, .v 7, .v 8, .v 9, .v 10, .v 11, .v 12, .v 13, .v 14, .v 15, .v 16, .v 17, .v 18, .v 19, .v 20, .v 21, .v 22, .v 23, .v 24, .v 25, .v 26, .v 27, .v 28, .v 29, .v 30, .v 33]] 1, .not 35 (.v 34), .cond 35 false, .need 51 [[.v 0, .v 1, .v 2, .v 3, .v 4, .v 5, .v 6, .v 7, .v 8, .v 9, .v 10, .v 11, .v 12, .v 13, .v 14, .v 15, .v 16, .v 17, .v 18, .v 19, .v 20, .v 21, .v 22, .v 23, .v 24, .v 25, .v 26, .v 27, .v 28, .v 29, .v 30, .v 33]], .call 36 51 [[.v 0, .v 1, .v 2, .v 3, .v 4, .v 5, .v 6, .v 7, .v 8, .v 9, .v 10, .v 11, .v 12, .v 13, .v 14, .v 15, .v 16, .v 17, .v 18, .v 19, .v 20, .v 21, .v 22, .v 23, .v 24, .v 25, .v 26, .v 27, .v 28, .v 29, .v 30, .v 33]] 16, .need 55 [[.v 36, .v 37, .v 38, .v 39, .v 40, .v 41, .v 42, .v 43, .v 44, .v 45, .v 46, .v 47, .v 48, .v 49, .v 50, .v 51], [.v 36, .v 37, .v 38, .v 39, .v 40, .v 41, .v 42, .v 43, .v 44, .v 45, .v 46, .v 47, .v 48, .v 49, .v 50, .v 51]], .call 52 55 [[.v 36, .v 37, .v 38, .v 39, .v 40, .v 41, .v 42, .v 43, .v 44, .v 45, .v 46, .v 47, .v 48, .v 49, .v 50, .v 51], [.v 36, .v 37, .v 38, .v 39, .v 40, .v 41, .v 42, .v 43, .v 44, .v 45, .v 46, .v 47, .v 48, .v 49, .v 50, .v 51]] 16, .need 54 [[.v 52, .v 53, .v 54, .v 55, .v 56, .v 57, .v 58, .v 59, .v 60, .v 61, .v 62, .v 63, .v 64, .v 65, .v 66, .v 67], [.l 1, .l 0, .l 0, .l 0, .l 0, .l 0, .l 0, .l 0, .l 0, .l 0, .l 0, .l 0, .l 0, .l 0, .l 0, .l 0]], .call 68 54 [[.v 52, .v 53, .v 54, .v 55, .v 56, .v 57, .v 58, .v 59, .v 60, .v 61, .v 62, .v 63, .v 64, .v 65, .v 66, .v 67], [.l 1, .l 0, .l 0, .l 0, .l 0, .l 0, .l 0, .l 0, .l 0, .l 0, .l 0, .l 0, .l 0, .l 0, .l 0, .l 0]] 16, .need 120 [], .call 84 120 [] 16, .need 55 [[.v 84, .v 85, .v 86, .v 87, .v 88, .v 89, .v 90, .v 91, .v 92, .v 93, .v 94, .v 95, .v 96, .v 97, .v 98, .v 99], [.v 52, .v 53, .v 54, .v 55, .v 56, .v 57, .v 58, .v 59, .v 60, .v 61, .v 62, .v 63, .v 64, .v 65, .v 66, .v 67]], .call 100 55 [[.v 84, .v 85, .v 86, .v 87, .v 88, .v 89, .v 90, .v 91, .v 92, .v 93, .v 94, .v 95, .v 96, .v 97, .v 98, .v 99], [.v 52, .v 53, .v 54, .v 55, .v 56, .v 57, .v 58, .v 59, .v 60, .v 61, .v 62, .v 63, .v 64, .v 65, .v 66, .v 67]] 16, .need 53 [[.v 100, .v 101, .v 102, .v 103, .v 104, .v 105, .v 106, .v 107, .v 108, .v 109, .v 110, .v 111, .v 112, .v 113, .v 114, .v 115], [.l 1, .l 0, .l 0, .l 0, .l 0, .l 0, .l 0, .l 0, .l 0, .l 0, .l 0, .l 0, .l 0, .l 0, .l 0, .l 0]], .call 116 53 [[.v 100, .v 101, .v 102, .v 103, .v 104, .v 105, .v 106, .v 107, .v 108, .v 109, .v 110, .v 111, .v 112, .v 113, .v 114, .v 115], [.l 1, .l 0, .l 0, .l 0, .l 0, .l 0, .l 0, .l 0, .l 0, .l 0, .l 0, .l 0, .l 0, .l 0, .l 0, .l 0]] 16, .need 57 [[.v 116, .v 117, .v 118, .v 119, .v 120, .v 121, .v 122, .v 123, .v 124, .v 125, .v 126, .v 127, .v 128, .v 129, .v 130, .v 131]], .call 132 57 [[.v 116, .v 117, .v 118, .v 119, .v 120, .v 121, .v 122, .v 123, .v 124, .v 125, .v 126, .v 127, .v 128, .v 129, .v 130, .v 131]] 16, .need 55 [[.v 68, .v 69, .v 70, .v 71, .v 72, .v 73, .v 74, .v 75, .v 76, .v 77, .v 78, .v 79, .v 80, .v 81, .v 82, .v 83], [.v 132, .v 133, .v 134, .v 135, .v 136, .v 137, .v 138, .v 139, .v 140, .v 141, .v 142, .v 143, .v 144, .v 145, .v 146, .v 147]], .call 148 55 [[.v 68, .v 69, .v 70, .v 71, .v 72, .v 73, .v 74, .v 75, .v 76, .v 77, .v 78, .v 79, .v 80, .v 81, .v 82, .v 83], [.v 132, .v 133, .v 134, .v 135, .v 136, .v 137, .v 138, .v 139, .v 140, .v 141, .v 142, .v 143, .v 144, .v 145, .v 146, .v 147]] 16, .need 58 [[.v 148, .v 149, .v 150, .v 151, .v 152, .v 153, .v 154, .v 155, .v 156, .v 157, .v 158, .v 159, .v 160, .v 161, .v 162, .v 163]], .call 164 58 [[.v 148, .v 149, .v 150, .v 151, .v 152, .v 153, .v 154, .v 155, .v 156, .v 157, .v 158, .v 159, .v 160, .v 161, .v 162, .v 163]] 33, .not 197 (.v 196), .cond 197 false, .eqs 198 [(.v 164, .l 0), (.v 165, .l 0), (.v 166, .l 0), (.v 167, .l 0), (.v 168, .l 0), (.v 169, .l 0), (.v 170, .l 0), (.v 171, .l 0), (.v 172, .l 0), (.v 173, .l 0), (.v 174, .l 0), (.v 175, .l 0), (.v 176, .l 0), (.v 177, .l 0), (.v 178, .l 0), (.v 179, .l 0), (.v 180, .l 0), (.v 181, .l 0), (.v 182, .l 0), (.v 183, .l 0), (.v 184, .l 0), (.v 185, .l 0), (.v 186, .l 0), (.v 187, .l 0), (.v 188, .l 0), (.v 189, .l 0), (.v 190, .l 0), (.v 191, .l 0), (.v 192, .l 0), (.v 193, .l 0), (.v 194, .l 0), (.v 195, .l 0)], .cond 198 false, .bin 199 .and .u8 (.v 164) (.l 1), .cmp 200 .neq (.v 199) (.v 32), .cond 200 false, .need 51 [[.v 164, .v 165, .v 166, .v 167, .v 168, .v 169, .v 170, .v 171, .v 172, .v 173, .v 174, .v 175, .v 176, .v 177, .v 178, .v 179, .v 180, .v 181, .v 182, .v 183, .v 184, .v 185, .v 186, .v 187, .v 188, .v 189, .v 190, .v 191, .v 192, .v 193, .v 194, .v 195]], .call 201 51 [[.v 164, .v 165, .v 166, .v 167, .v 168, .v 169, .v 170, .v 171, .v 172, .v 173, .v 174, .v 175, .v 176, .v 177, .v 178, .v 179, .v 180, .v 181, .v 182, .v 183, .v 184, .v 185, .v 186, .v 187, .v 188, .v 189, .v 190, .v 191, .v 192, .v 193, .v 194, .v 195]] 16, .need 55 [[.v 201, .v 202, .v 203, .v 204, .v 205, .v 206, .v 207, .v 208, .v 209, .v 210, .v 211, .v 212, .v 213, .v 214, .v 215, .v 216], [.v 36, .v 37, .v 38, .v 39, .v 40, .v 41, .v 42, .v 43, .v 44, .v 45, .v 46, .v 47, .v 48, .v 49, .v 50, .v 51]], .call 217 55 [[.v 201, .v 202, .v 203, .v 204, .v 205, .v 206, .v 207, .v 208, .v 209, .v 210, .v 211, .v 212, .v 213, .v 214, .v 215, .v 216], [.v 36, .v 37, .v 38, .v 39, .v 40, .v 41, .v 42, .v 43, .v 44, .v 45, .v 46, .v 47, .v 48, .v 49, .v 50, .v 51]] 16]) (refs := [.v 201, .v 202, .v 203, .v 204, .v 205, .v 206, .v 207, .v 208, .v 209, .v 210, .v 211, .v 212, .v 213, .v 214, .v 215, .v 216, .v 36, .v 37, .v 38, .v 39, .v 40, .v 41, .v 42, .v 43, .v 44, .v 45, .v 46, .v 47, .v 48, .v 49, .v 50, .v 51, .l 1, .l 0, .l 0, .l 0, .l 0, .l 0, .l 0, .l 0, .l 0, .l 0, .l 0, .l 0, .l 0, .l 0, .l 0, .l 0, .v 217, .v 218, .v 219, .v 220, .v 221, .v 222, .v 223, .v 224, .v 225, .v 226, .v 227, .v 228, .v 229, .v 230, .v 231, .v 232, .l 1]) (by kernel_rfl) fun ρ hρ hd => ?_
          simp only [D_nil, D_add, D_sub, D_mul, D_and, D_or, D_xor, D_shl, D_shr, D_andNot, D_quo, D_rem, D_add_i64, D_sub_i64, D_mul_i64, D_add_u32, D_sub_u32, D_mul_u32, D_add_u8, D_sub_u8, D_mul_u8, D_eql, D_neq, D_lss, D_leq, D_gtr, D_geq, D_not, D_conv, D_eqs, D_call, D_cond, D_need, D_idx, D_sel, D_upd, D_shv, D_beq, List.map_cons, List.map_nil, Ref.den] at hd
          obtain ⟨h32, h33, h34, h35, h36, h52, h68, h84, h100, h116, h132, h148, h164, h197, h198, h199, h200, h201, h217, -⟩ := hd
          obtain ⟨e32, e33⟩ := start ρ hρ h32 h33
          have s34 : ρ 34 = b2i (decide (dv 256 (seg ρ 0 31 ++ [ρ 33]) < PP)) := h34 0 (by decide)
          rw [e33, vY] at s34
          have k35 := not_bit h35 (show ρ 34 = 1 by rw [s34, decide_eq_true c1]; rfl)
          have s36 : seg ρ 36 16 = pairs16 (dg 256 32 Y) := by
            have := seg_of (ρ := ρ) (n := 36) (g := pairs16 (seg ρ 0 31 ++ [ρ 33])) h36 (by rw [e33]; exact fY.len)
            rw [e33] at this; exact this
          have f36 : FF (seg ρ 36 16) := by rw [s36]; exact fY
          have s52 : seg ρ 52 16 = mulF (seg ρ 36 16) (seg ρ 36 16) := seg_of h52 (mulF_ok f36 f36).1.len
          have f52 : FF (seg ρ 52 16) := by rw [s52]; exact (mulF_ok f36 f36).1
          have s68 : seg ρ 68 16 = minF (seg ρ 52 16) ([1, 0, 0, 0, 0, 0, 0, 0, 0, 0, 0, 0, 0, 0, 0, 0]) := seg_of h68 (minF_ok f52 oneF_ff).1.len
          have f68 : FF (seg ρ 68 16) := by rw [s68]; exact (minF_ok f52 oneF_ff).1
          have s84 : seg ρ 84 16 = dL := seg_of h84 dL_ok.1.len
          have f84 : FF (seg ρ 84 16) := by rw [s84]; exact dL_ok.1
          have s100 : seg ρ 100 16 = mulF (seg ρ 84 16) (seg ρ 52 16) := seg_of h100 (mulF_ok f84 f52).1.len
          have f100 : FF (seg ρ 100 16) := by rw [s100]; exact (mulF_ok f84 f52).1
          have s116 : seg ρ 116 16 = plusF (seg ρ 100 16) ([1, 0, 0, 0, 0, 0, 0, 0, 0, 0, 0, 0, 0, 0, 0, 0]) := seg_of h116 (plusF_ok f100 oneF_ff).1.len
          have f116 : FF (seg ρ 116 16) := by rw [s116]; exact (plusF_ok f100 oneF_ff).1
          have s132 : seg ρ 132 16 = powF (seg ρ 116 16) (PP - 2) 256 := seg_of h132 (powF_ff f116 _ _).len
          have f132 : FF (seg ρ 132 16) := by rw [s132]; exact powF_ff f116 _ _
          have s148 : seg ρ 148 16 = mulF (seg ρ 68 16) (seg ρ 132 16) := seg_of h148 (mulF_ok f68 f132).1.len
          have f148 : FF (seg ρ 148 16) := by rw [s148]; exact (mulF_ok f68 f132).1
          have e148 : seg ρ 148 16 = dx2 Y := by
            rw [s148, s68, s132, s116, s100, s52, s84, s36]
            exact (show dx2 Y = _ by rw [dx2]; rfl).symm
          have h164 : ∀ i, i < 33 → ρ (164 + i) = (if timesZ (rootT (dv 65536 (dx2 Y))) (rootT (dv 65536 (dx2 Y))) % PP = dv 65536 (dx2 Y) % PP then dg 256 32 (R) ++ [1] else dg 256 32 0 ++ [0]).getD i 0 := fun i hi => by
            have h : ρ (164 + i) = (hfns.g 58 [seg ρ 148 16]).getD i 0 := h164 i hi
            rw [hg58, e148] at h; rw [h, hR, dr]
          have c2' := c2
          unfold rtOK at c2'
          simp only [if_pos c2'] at h164
          obtain ⟨s164, r196⟩ := splitN (R := [1]) (dg_len 256 32 (R)) h164
          have k197 := not_bit h197 (show ρ 196 = 1 from r196 0 (by decide))
          have v164 : dv 256 (seg ρ 164 32) = R := by rw [s164]; exact dv_dg_of (by decide) bR.1 (Int.lt_trans bR.2 (by decide))
          have q198 : ρ 198 = b2i (decide (seg ρ 164 32 = [0, 0, 0, 0, 0, 0, 0, 0, 0, 0, 0, 0, 0, 0, 0, 0, 0, 0, 0, 0, 0, 0, 0, 0, 0, 0, 0, 0, 0, 0, 0, 0])) := h198.trans (congrArg b2i eqs_lists)
          have hz : seg ρ 164 32 = [0, 0, 0, 0, 0, 0, 0, 0, 0, 0, 0, 0, 0, 0, 0, 0, 0, 0, 0, 0, 0, 0, 0, 0, 0, 0, 0, 0, 0, 0, 0, 0] ↔ R = 0 := ⟨fun h => by rw [← v164, h]; decide, fun h => by rw [s164, h]; decide⟩
          have r164 : ρ 164 = R % 256 := congrArg (fun l => l.getD 0 0) s164
          have k198 := bit_false q198 (decide_eq_false (fun h => c3 (hz.1 h)))
          have e199 := k_and 1 (by decide) rfl h199
          rw [show (2 : Int) ^ 1 = 2 by decide, r164] at e199
          have k200 := bit_false h200 (decide_eq_false (fun h => h (by rw [e199, e32]; exact mod2 c5)))
          have s201 : seg ρ 201 16 = pairs16 (dg 256 32 (R)) := by
            have := seg_of (ρ := ρ) (n := 201) (g := pairs16 (seg ρ 164 32)) h201 (by rw [s164]; exact (in_ff (dg_len 256 32 _) (dg_dig (by decide) _ _)).1.len)
            rw [s164] at this; exact this
          have f201 : FF (seg ρ 201 16) := by rw [s201]; exact (in_ff (dg_len 256 32 _) (dg_dig (by decide) _ _)).1
          have s217 : seg ρ 217 16 = mulF (seg ρ 201 16) (seg ρ 36 16) := seg_of h217 (mulF_ok f201 f36).1.len
          have f217 : FF (seg ρ 217 16) := by rw [s217]; exact (mulF_ok f201 f36).1
          rw [if_pos (eO.2 ⟨c1, c2, fun h => c3 h.1⟩)]
          refine ⟨by simp only [G_nil, G_bin, G_cmp, G_not, G_conv, G_eqs, G_call, G_cond, G_need, G_idx, G_sel, G_upd, G_shv, G_beq, List.map_cons, List.map_nil, Ref.den]; exact ⟨trivial, k35, trivial, ⟨f36, f36⟩, ⟨f52, oneF_ff⟩, trivial, ⟨f84, f52⟩, ⟨f100, oneF_ff⟩, f116, ⟨f68, f132⟩, f148, k197, k198, k200, trivial, ⟨f201, f36⟩, trivial⟩, ?_⟩
          have e : decF A = seg ρ 201 16 ++ (seg ρ 36 16 ++ (oneF ++ seg ρ 217 16)) := by
            rw [eF, eR, if_pos c5, s217, s201, s36]; rfl
          rw [e]; rfl
        · refine Go.Sx.Way.of (dec := [false,false,false,true]) (fs := [.bin 32 .shr .u8 (.v 31) (.l 7), .bin 33 .and .u8 (.v 31) (.l 127), .need 64 [[.v 0, .v 1, .v 2, .v 3, .v 4, .v 5, .v 6, .v 7, .v 8, .v 9, .v 10, .v 11, .v 12, .v 13, .v 14, .v 15, .v 16, .v 17, .v 18, .v 19, .v 20, .v 21, .v 22, .v 23, .v 24, .v 25, .v 26, .v 27, .v 28, .v 29, .v 30, .v 33]], .call 34 64 [[.v 0, .v 1, .v 2, .v 3, .v 4, .v 5, .v 6, .v 7, .v 8, .v 9, .v 10, .v 11, .v 12, .v 13, .v 14, .v 15, .v 16, .v 17, .v 18, .v 19, .v 20, .v 21, .v 22, .v 23, .v 24, .v 25, .v 26, .v 27, .v 28, .v 29, .v 30, .v 33]] 1, .not 35 (.v 34), .cond 35 false, .need 51 [[.v 0, .v 1, .v 2, .v 3, .v 4, .v 5, .v 6, .v 7, .v 8, .v 9, .v 10, .v 11, .v 12, .v 13, .v 14, .v 15, .v 16, .v 17, .v 18, .v 19, .v 20, .v 21, .v 22, .v 23, .v 24, .v 25, .v 26, .v 27, .v 28, .v 29, .v 30, .v 33]], .call 36 51 [[.v 0, .v 1, .v 2, .v 3, .v 4, .v 5, .v 6, .v 7, .v 8, .v 9, .v 10, .v 11, .v 12, .v 13, .v 14, .v 15, .v 16, .v 17, .v 18, .v 19, .v 20, .v 21, .v 22, .v 23, .v 24, .v 25, .v 26, .v 27, .v 28, .v 29, .v 30, .v 33]] 16, .need 55 [[.v 36, .v 37, .v 38, .v 39, .v 40, .v 41, .v 42, .v 43, .v 44, .v 45, .v 46, .v 47, .v 48, .v 49, .v 50, .v 51], [.v 36, .v 37, .v 38, .v 39, .v 40, .v 41, .v 42, .v 43, .v 44, .v 45, .v 46, .v 47, .v 48, .v 49, .v 50, .v 51]], .call 52 55 [[.v 36, .v 37, .v 38, .v 39, .v 40, .v 41, .v 42, .v 43, .v 44, .v 45, .v 46, .v 47, .v 48, .v 49, .v 50, .v 51], [.v 36, .v 37, .v 38, .v 39, .v 40, .v 41, .v 42, .v 43, .v 44, .v 45, .v 46, .v 47, .v 48, .v 49, .v 50, .v 51]] 16, .need 54 [[.v 52, .v 53, .v 54, .v 55, .v 56, .v 57, .v 58, .v 59, .v 60, .v 61, .v 62, .v 63, .v 64, .v 65, .v 66, .v 67], [.l 1, .l 0, .l 0, .l 0, .l 0, .l 0, .l 0, .l 0, .l 0, .l 0, .l 0, .l 0, .l 0, .l 0, .l 0, .l 0]], .call 68 54 [[.v 52, .v 53, .v 54, .v 55, .v 56, .v 57, .v 58, .v 59, .v 60, .v 61, .v 62, .v 63, .v 64, .v 65, .v 66, .v 67], [.l 1, .l 0, .l 0, .l 0, .l 0, .l 0, .l 0, .l 0, .l 0, .l 0, .l 0, .l 0, .l 0, .l 0, .l 0, .l 0]] 16, .need 120 [], .call 84 120 [] 16, .need 55 [[.v 84, .v 85, .v 86, .v 87, .v 88, .v 89, .v 90, .v 91, .v 92, .v 93, .v 94, .v 95, .v 96, .v 97, .v 98, .v 99], [.v 52, .v 53, .v 54, .v 55, .v 56, .v 57, .v 58, .v 59, .v 60, .v 61, .v 62, .v 63, .v 64, .v 65, .v 66, .v 67]], .call 100 55 [[.v 84, .v 85, .v 86, .v 87, .v 88, .v 89, .v 90, .v 91, .v 92, .v 93, .v 94, .v 95, .v 96, .v 97, .v 98, .v 99], [.v 52, .v 53, .v 54, .v 55, .v 56, .v 57, .v 58, .v 59, .v 60, .v 61, .v 62, .v 63, .v 64, .v 65, .v 66, .v 67]] 16, .need 53 [[.v 100, .v 101, .v 102, .v 103, .v 104, .v 105, .v 106, .v 107, .v 108, .v 109, .v 110, .v 111, .v 112, .v 113, .v 114, .v 115], [.l 1, .l 0, .l 0, .l 0, .l 0, .l 0, .l 0, .l 0, .l 0, .l 0, .l 0, .l 0, .l 0, .l 0, .l 0, .l 0]], .call 116 53 [[.v 100, .v 101, .v 102, .v 103, .v 104, .v 105, .v 106, .v 107, .v 108, .v 109, .v 110, .v 111, .v 112, .v 113, .v 114, .v 115], [.l 1, .l 0, .l 0, .l 0, .l 0, .l 0, .l 0, .l 0, .l 0, .l 0, .l 0, .l 0, .l 0, .l 0, .l 0, .l 0]] 16, .need 57 [[.v 116, .v 117, .v 118, .v 119, .v 120, .v 121, .v 122, .v 123, .v 124, .v 125, .v 126, .v 127, .v 128, .v 129, .v 130, .v 131]], .call 132 57 [[.v 116, .v 117, .v 118, .v 119, .v 120, .v 121, .v 122, .v 123, .v 124, .v 125, .v 126, .v 127, .v 128, .v 129, .v 130, .v 131]] 16, .need 55 [[.v 68, .v 69, .v 70, .v 71, .v 72, .v 73, .v 74, .v 75, .v 76, .v 77, .v 78, .v 79, .v 80, .v 81, .v 82, .v 83], [.v 132, .v 133, .v 134, .v 135, .v 136, .v 137, .v 138, .v 139, .v 140, .v 141, .v 142, .v 143, .v 144, .v 145, .v 146, .v 147]], .call 148 55 [[.v 68, .v 69, .v 70, .v 71, .v 72, .v 73, .v 74, .v 75, .v 76, .v 77, .v 78, .v 79, .v 80, .v 81, .v 82, .v 83], [.v 132, .v 133, .v 134, .v 135, .v 136, .v 137, .v 138, .v 139, .v 140, .v 141, .v 142, .v 143, .v 144, .v 145, .v 146, .v 147]] 16, .need 58 [[.v 148, .v 149, .v 150, .v 151, .v 152, .v 153, .v 154, .v 155, .v 156, .v 157, .v 158, .v 159, .v 160, .v 161, .v 162, .v 163]], .call 164 58 [[.v 148, .v 149, .v 150, .v 151, .v 152, .v 153, .v 154, .v 155, .v 156, .v 157, .v 158, .v 159, .v 160, .v 161, .v 162, .v 163]] 33, .not 197 (.v 196), .cond 197 false, .eqs 198 [(.v 164, .l 0), (.v 165, .l 0), (.v 166, .l 0), (.v 167, .l 0), (.v 168, .l 0), (.v 169, .l 0), (.v 170, .l 0), (.v 171, .l 0), (.v 172, .l 0), (.v 173, .l 0), (.v 174, .l 0), (.v 175, .l 0), (.v 176, .l 0), (.v 177, .l 0), (.v 178, .l 0), (.v 179, .l 0), (.v 180, .l 0), (.v 181, .l 0), (.v 182, .l 0), (.v 183, .l 0), (.v 184, .l 0), (.v 185, .l 0), (.v 186, .l 0), (.v 187, .l 0), (.v 188, .l 0), (.v 189, .l 0), (.v 190, .l 0), (.v 191, .l 0), (.v 192, .l 0), (.v 193, .l 0), (.v 194, .l 0), (.v 195, .l 0)], .cond 198 false, .bin 199 .and .u8 (.v 164) (.l 1), .cmp 200 .neq (.v 199) (.v 32), .cond 200 true, .need 66 [[.l 0, .l 0, .l 0, .l 0, .l 0, .l 0, .l 0, .l 0, .l 0, .l 0, .l 0, .l 0, .l 0, .l 0, .l 0, .l 0, .l 0, .l 0, .l 0, .l 0, .l 0, .l 0, .l 0, .l 0, .l 0, .l 0, .l 0, .l 0, .l 0, .l 0, .l 0, .l 0], [.v 164, .v 165, .v 166, .v 167, .v 168, .v 169, .v 170, .v 171, .v 172, .v 173, .v 174, .v 175, .v 176, .v 177, .v 178, .v 179, .v 180, .v 181, .v 182, .v 183, .v 184, .v 185, .v 186, .v 187, .v 188, .v 189, .v 190, .v 191, .v 192, .v 193, .v 194, .v 195]], .call 201 66 [[.l 0, .l 0, .l 0, .l 0, .l 0, .l 0, .l 0, .l 0, .l 0, .l 0, .l 0, .l 0, .l 0, .l 0, .l 0, .l 0, .l 0, .l 0, .l 0, .l 0, .l 0, .l 0, .l 0, .l 0, .l 0, .l 0, .l 0, .l 0, .l 0, .l 0, .l 0, .l 0], [.v 164, .v 165, .v 166, .v 167, .v 168, .v 169, .v 170, .v 171, .v 172, .v 173, .v 174, .v 175, .v 176, .v 177, .v 178, .v 179, .v 180, .v 181, .v 182, .v 183, .v 184, .v 185, .v 186, .v 187, .v 188, .v 189, .v 190, .v 191, .v 192, .v 193, .v 194, .v 195]] 32, .need 51 [[.v 201, .v 202, .v 203, .v 204, .v 205, .v 206, .v 207, .v 208, .v 209, .v 210, .v 211, .v 212, .v 213, .v 214, .v 215, .v 216, .v 217, .v 218, .v 219, .v 220, .v 221, .v 222, .v 223, .v 224, .v 225, .v 226, .v 227, .v 228, .v 229, .v 230, .v 231, .v 232]], .call 233 51 [[.v 201, .v 202, .v 203, .v 204, .v 205, .v 206, .v 207, .v 208, .v 209, .v 210, .v 211, .v 212, .v 213, .v 214, .v 215, .v 216, .v 217, .v 218, .v 219, .v 220, .v 221, .v 222, .v 223, .v 224, .v 225, .v 226, .v 227, .v 228, .v 229, .v 230, .v 231, .v 232]] 16, .need 55 [[.v 233, .v 234, .v 235, .v 236, .v 237, .v 238, .v 239, .v 240, .v 241, .v 242, .v 243, .v 244, .v 245, .v 246, .v 247, .v 248], [.v 36, .v 37, .v 38, .v 39, .v 40, .v 41, .v 42, .v 43, .v 44, .v 45, .v 46, .v 47, .v 48, .v 49, .v 50, .v 51]], .call 249 55 [[.v 233, .v 234, .v 235, .v 236, .v 237, .v 238, .v 239, .v 240, .v 241, .v 242, .v 243, .v 244, .v 245, .v 246, .v 247, .v 248], [.v 36, .v 37, .v 38, .v 39, .v 40, .v 41, .v 42, .v 43, .v 44, .v 45, .v 46, .v 47, .v 48, .v 49, .v 50, .v 51]] 16]) (refs := [.v 233, .v 234, .v 235, .v 236, .v 237, .v 238, .v 239, .v 240, .v 241, .v 242, .v 243, .v 244, .v 245, .v 246, .v 247, .v 248, .v 36, .v 37, .v 38, .v 39, .v 40, .v 41, .v 42, .v 43, .v 44, .v 45, .v 46, .v 47, .v 48, .v 49, .v 50, .v 51, .l 1, .l 0, .l 0, .l 0, .l 0, .l 0, .l 0, .l 0, .l 0, .l 0, .l 0, .l 0, .l 0, .l 0, .l 0, .l 0, .v 249, .v 250, .v 251, .v 252, .v 253, .v 254, .v 255, .v 256, .v 257, .v 258, .v 259, .v 260, .v 261, .v 262, .v 263, .v 264, .l 1]) (by kernel_rfl) fun ρ hρ hd => ?_
          simp only [D_nil, D_add, D_sub, D_mul, D_and, D_or, D_xor, D_shl, D_shr, D_andNot, D_quo, D_rem, D_add_i64, D_sub_i64, D_mul_i64, D_add_u32, D_sub_u32, D_mul_u32, D_add_u8, D_sub_u8, D_mul_u8, D_eql, D_neq, D_lss, D_leq, D_gtr, D_geq, D_not, D_conv, D_eqs, D_call, D_cond, D_need, D_idx, D_sel, D_upd, D_shv, D_beq, List.map_cons, List.map_nil, Ref.den] at hd
          obtain ⟨h32, h33, h34, h35, h36, h52, h68, h84, h100, h116, h132, h148, h164, h197, h198, h199, h200, h201, h233, h249, -⟩ := hd
          obtain ⟨e32, e33⟩ := start ρ hρ h32 h33
          have s34 : ρ 34 = b2i (decide (dv 256 (seg ρ 0 31 ++ [ρ 33]) < PP)) := h34 0 (by decide)
          rw [e33, vY] at s34
          have k35 := not_bit h35 (show ρ 34 = 1 by rw [s34, decide_eq_true c1]; rfl)
          have s36 : seg ρ 36 16 = pairs16 (dg 256 32 Y) := by
            have := seg_of (ρ := ρ) (n := 36) (g := pairs16 (seg ρ 0 31 ++ [ρ 33])) h36 (by rw [e33]; exact fY.len)
            rw [e33] at this; exact this
          have f36 : FF (seg ρ 36 16) := by rw [s36]; exact fY
          have s52 : seg ρ 52 16 = mulF (seg ρ 36 16) (seg ρ 36 16) := seg_of h52 (mulF_ok f36 f36).1.len
          have f52 : FF (seg ρ 52 16) := by rw [s52]; exact (mulF_ok f36 f36).1
          have s68 : seg ρ 68 16 = minF (seg ρ 52 16) ([1, 0, 0, 0, 0, 0, 0, 0, 0, 0, 0, 0, 0, 0, 0, 0]) := seg_of h68 (minF_ok f52 oneF_ff).1.len
          have f68 : FF (seg ρ 68 16) := by rw [s68]; exact (minF_ok f52 oneF_ff).1
          have s84 : seg ρ 84 16 = dL := seg_of h84 dL_ok.1.len
          have f84 : FF (seg ρ 84 16) := by rw [s84]; exact dL_ok.1
          have s100 : seg ρ 100 16 = mulF (seg ρ 84 16) (seg ρ 52 16) := seg_of h100 (mulF_ok f84 f52).1.len
          have f100 : FF (seg ρ 100 16) := by rw [s100]; exact (mulF_ok f84 f52).1
          have s116 : seg ρ 116 16 = plusF (seg ρ 100 16) ([1, 0, 0, 0, 0, 0, 0, 0, 0, 0, 0, 0, 0, 0, 0, 0]) := seg_of h116 (plusF_ok f100 oneF_ff).1.len
          have f116 : FF (seg ρ 116 16) := by rw [s116]; exact (plusF_ok f100 oneF_ff).1
          have s132 : seg ρ 132 16 = powF (seg ρ 116 16) (PP - 2) 256 := seg_of h132 (powF_ff f116 _ _).len
          have f132 : FF (seg ρ 132 16) := by rw [s132]; exact powF_ff f116 _ _
          have s148 : seg ρ 148 16 = mulF (seg ρ 68 16) (seg ρ 132 16) := seg_of h148 (mulF_ok f68 f132).1.len
          have f148 : FF (seg ρ 148 16) := by rw [s148]; exact (mulF_ok f68 f132).1
          have e148 : seg ρ 148 16 = dx2 Y := by
            rw [s148, s68, s132, s116, s100, s52, s84, s36]
            exact (show dx2 Y = _ by rw [dx2]; rfl).symm
          have h164 : ∀ i, i < 33 → ρ (164 + i) = (if timesZ (rootT (dv 65536 (dx2 Y))) (rootT (dv 65536 (dx2 Y))) % PP = dv 65536 (dx2 Y) % PP then dg 256 32 (R) ++ [1] else dg 256 32 0 ++ [0]).getD i 0 := fun i hi => by
            have h : ρ (164 + i) = (hfns.g 58 [seg ρ 148 16]).getD i 0 := h164 i hi
            rw [hg58, e148] at h; rw [h, hR, dr]
          have c2' := c2
          unfold rtOK at c2'
          simp only [if_pos c2'] at h164
          obtain ⟨s164, r196⟩ := splitN (R := [1]) (dg_len 256 32 (R)) h164
          have k197 := not_bit h197 (show ρ 196 = 1 from r196 0 (by decide))
          have v164 : dv 256 (seg ρ 164 32) = R := by rw [s164]; exact dv_dg_of (by decide) bR.1 (Int.lt_trans bR.2 (by decide))
          have q198 : ρ 198 = b2i (decide (seg ρ 164 32 = [0, 0, 0, 0, 0, 0, 0, 0, 0, 0, 0, 0, 0, 0, 0, 0, 0, 0, 0, 0, 0, 0, 0, 0, 0, 0, 0, 0, 0, 0, 0, 0])) := h198.trans (congrArg b2i eqs_lists)
          have hz : seg ρ 164 32 = [0, 0, 0, 0, 0, 0, 0, 0, 0, 0, 0, 0, 0, 0, 0, 0, 0, 0, 0, 0, 0, 0, 0, 0, 0, 0, 0, 0, 0, 0, 0, 0] ↔ R = 0 := ⟨fun h => by rw [← v164, h]; decide, fun h => by rw [s164, h]; decide⟩
          have r164 : ρ 164 = R % 256 := congrArg (fun l => l.getD 0 0) s164
          have k198 := bit_false q198 (decide_eq_false (fun h => c3 (hz.1 h)))
          have e199 := k_and 1 (by decide) rfl h199
          rw [show (2 : Int) ^ 1 = 2 by decide, r164] at e199
          have k200 := bit_true h200 (decide_eq_true (fun h => c5 (by rw [e199, e32] at h; exact mod2b h)))
          have s201 : seg ρ 201 32 = dg 256 32 ((dv 256 [0, 0, 0, 0, 0, 0, 0, 0, 0, 0, 0, 0, 0, 0, 0, 0, 0, 0, 0, 0, 0, 0, 0, 0, 0, 0, 0, 0, 0, 0, 0, 0] - dv 256 (seg ρ 164 32)) % PP) := seg_of h201 (dg_len _ _ _)
          rw [v164, show dv 256 [0, 0, 0, 0, 0, 0, 0, 0, 0, 0, 0, 0, 0, 0, 0, 0, 0, 0, 0, 0, 0, 0, 0, 0, 0, 0, 0, 0, 0, 0, 0, 0] = 0 by decide] at s201
          have s233 : seg ρ 233 16 = pairs16 (dg 256 32 ((0 - R) % PP)) := by
            have := seg_of (ρ := ρ) (n := 233) (g := pairs16 (seg ρ 201 32)) h233 (by rw [s201]; exact (in_ff (dg_len 256 32 _) (dg_dig (by decide) _ _)).1.len)
            rw [s201] at this; exact this
          have f233 : FF (seg ρ 233 16) := by rw [s233]; exact (in_ff (dg_len 256 32 _) (dg_dig (by decide) _ _)).1
          have s249 : seg ρ 249 16 = mulF (seg ρ 233 16) (seg ρ 36 16) := seg_of h249 (mulF_ok f233 f36).1.len
          have f249 : FF (seg ρ 249 16) := by rw [s249]; exact (mulF_ok f233 f36).1
          rw [if_pos (eO.2 ⟨c1, c2, fun h => c3 h.1⟩)]
          refine ⟨by simp only [G_nil, G_bin, G_cmp, G_not, G_conv, G_eqs, G_call, G_cond, G_need, G_idx, G_sel, G_upd, G_shv, G_beq, List.map_cons, List.map_nil, Ref.den]; exact ⟨trivial, k35, trivial, ⟨f36, f36⟩, ⟨f52, oneF_ff⟩, trivial, ⟨f84, f52⟩, ⟨f100, oneF_ff⟩, f116, ⟨f68, f132⟩, f148, k197, k198, k200, trivial, trivial, ⟨f233, f36⟩, trivial⟩, ?_⟩
          have e : decF A = seg ρ 233 16 ++ (seg ρ 36 16 ++ (oneF ++ seg ρ 249 16)) := by
            rw [eF, eR, if_neg c5, s249, s233, s36]; rfl
          rw [e]; rfl
    · refine Go.Sx.Way.of (dec := [false,true]) (fs := [.bin 32 .shr .u8 (.v 31) (.l 7), .bin 33 .and .u8 (.v 31) (.l 127), .need 64 [[.v 0, .v 1, .v 2, .v 3, .v 4, .v 5, .v 6, .v 7, .v 8, .v 9, .v 10, .v 11, .v 12, .v 13, .v 14, .v 15, .v 16, .v 17, .v 18, .v 19, .v 20, .v 21, .v 22, .v 23, .v 24, .v 25, .v 26, .v 27, .v 28, .v 29, .v 30, .v 33]], .call 34 64 [[.v 0, .v 1, .v 2, .v 3, .v 4, .v 5, .v 6, .v 7, .v 8, .v 9, .v 10, .v 11, .v 12, .v 13, .v 14, .v 15, .v 16, .v 17, .v 18, .v 19, .v 20, .v 21, .v 22, .v 23, .v 24, .v 25, .v 26, .v 27, .v 28, .v 29, .v 30, .v 33]] 1, .not 35 (.v 34), .cond 35 false, .need 51 [[.v 0, .v 1, .v 2, .v 3, .v 4, .v 5, .v 6, .v 7, .v 8, .v 9, .v 10, .v 11, .v 12, .v 13, .v 14, .v 15, .v 16, .v 17, .v 18, .v 19, .v 20, .v 21, .v 22, .v 23, .v 24, .v 25, .v 26, .v 27, .v 28, .v 29, .v 30, .v 33]], .call 36 51 [[.v 0, .v 1, .v 2, .v 3, .v 4, .v 5, .v 6, .v 7, .v 8, .v 9, .v 10, .v 11, .v 12, .v 13, .v 14, .v 15, .v 16, .v 17, .v 18, .v 19, .v 20, .v 21, .v 22, .v 23, .v 24, .v 25, .v 26, .v 27, .v 28, .v 29, .v 30, .v 33]] 16, .need 55 [[.v 36, .v 37, .v 38, .v 39, .v 40, .v 41, .v 42, .v 43, .v 44, .v 45, .v 46, .v 47, .v 48, .v 49, .v 50, .v 51], [.v 36, .v 37, .v 38, .v 39, .v 40, .v 41, .v 42, .v 43, .v 44, .v 45, .v 46, .v 47, .v 48, .v 49, .v 50, .v 51]], .call 52 55 [[.v 36, .v 37, .v 38, .v 39, .v 40, .v 41, .v 42, .v 43, .v 44, .v 45, .v 46, .v 47, .v 48, .v 49, .v 50, .v 51], [.v 36, .v 37, .v 38, .v 39, .v 40, .v 41, .v 42, .v 43, .v 44, .v 45, .v 46, .v 47, .v 48, .v 49, .v 50, .v 51]] 16, .need 54 [[.v 52, .v 53, .v 54, .v 55, .v 56, .v 57, .v 58, .v 59, .v 60, .v 61, .v 62, .v 63, .v 64, .v 65, .v 66, .v 67], [.l 1, .l 0, .l 0, .l 0, .l 0, .l 0, .l 0, .l 0, .l 0, .l 0, .l 0, .l 0, .l 0, .l 0, .l 0, .l 0]], .call 68 54 [[.v 52, .v 53, .v 54, .v 55, .v 56, .v 57, .v 58, .v 59, .v 60, .v 61, .v 62, .v 63, .v 64, .v 65, .v 66, .v 67], [.l 1, .l 0, .l 0, .l 0, .l 0, .l 0, .l 0, .l 0, .l 0, .l 0, .l 0, .l 0, .l 0, .l 0, .l 0, .l 0]] 16, .need 120 [], .call 84 120 [] 16, .need 55 [[.v 84, .v 85, .v 86, .v 87, .v 88, .v 89, .v 90, .v 91, .v 92, .v 93, .v 94, .v 95, .v 96, .v 97, .v 98, .v 99], [.v 52, .v 53, .v 54, .v 55, .v 56, .v 57, .v 58, .v 59, .v 60, .v 61, .v 62, .v 63, .v 64, .v 65, .v 66, .v 67]], .call 100 55 [[.v 84, .v 85, .v 86, .v 87, .v 88, .v 89, .v 90, .v 91, .v 92, .v 93, .v 94, .v 95, .v 96, .v 97, .v 98, .v 99], [.v 52, .v 53, .v 54, .v 55, .v 56, .v 57, .v 58, .v 59, .v 60, .v 61, .v 62, .v 63, .v 64, .v 65, .v 66, .v 67]] 16, .need 53 [[.v 100, .v 101, .v 102, .v 103, .v 104, .v 105, .v 106, .v 107, .v 108, .v 109, .v 110, .v 111, .v 112, .v 113, .v 114, .v 115], [.l 1, .l 0, .l 0, .l 0, .l 0, .l 0, .l 0, .l 0, .l 0, .l 0, .l 0, .l 0, .l 0, .l 0, .l 0, .l 0]], .call 116 53 [[.v 100, .v 101, .v 102, .v 103, .v 104, .v 105, .v 106, .v 107, .v 108, .v 109, .v 110, .v 111, .v 112, .v 113, .v 114, .v 115], [.l 1, .l 0, .l 0, .l 0, .l 0, .l 0, .l 0, .l 0, .l 0, .l 0, .l 0, .l 0, .l 0, .l 0, .l 0, .l 0]] 16, .need 57 [[.v 116, .v 117, .v 118, .v 119, .v 120, .v 121, .v 122, .v 123, .v 124, .v 125, .v 126, .v 127, .v 128, .v 129, .v 130, .v 131]], .call 132 57 [[.v 116, .v 117, .v 118, .v 119, .v 120, .v 121, .v 122, .v 123, .v 124, .v 125, .v 126, .v 127, .v 128, .v 129, .v 130, .v 131]] 16, .need 55 [[.v 68, .v 69, .v 70, .v 71, .v 72, .v 73, .v 74, .v 75, .v 76, .v 77, .v 78, .v 79, .v 80, .v 81, .v 82, .v 83], [.v 132, .v 133, .v 134, .v 135, .v 136, .v 137, .v 138, .v 139, .v 140, .v 141, .v 142, .v 143, .v 144, .v 145, .v 146, .v 147]], .call 148 55 [[.v 68, .v 69, .v 70, .v 71, .v 72, .v 73, .v 74, .v 75, .v 76, .v 77, .v 78, .v 79, .v 80, .v 81, .v 82, .v 83], [.v 132, .v 133, .v 134, .v 135, .v 136, .v 137, .v 138, .v 139, .v 140, .v 141, .v 142, .v 143, .v 144, .v 145, .v 146, .v 147]] 16, .need 58 [[.v 148, .v 149, .v 150, .v 151, .v 152, .v 153, .v 154, .v 155, .v 156, .v 157, .v 158, .v 159, .v 160, .v 161, .v 162, .v 163]], .call 164 58 [[.v 148, .v 149, .v 150, .v 151, .v 152, .v 153, .v 154, .v 155, .v 156, .v 157, .v 158, .v 159, .v 160, .v 161, .v 162, .v 163]] 33, .not 197 (.v 196), .cond 197 true]) (refs := [.l 0, .l 0, .l 0, .l 0, .l 0, .l 0, .l 0, .l 0, .l 0, .l 0, .l 0, .l 0, .l 0, .l 0, .l 0, .l 0, .l 0, .l 0, .l 0, .l 0, .l 0, .l 0, .l 0, .l 0, .l 0, .l 0, .l 0, .l 0, .l 0, .l 0, .l 0, .l 0, .l 0, .l 0, .l 0, .l 0, .l 0, .l 0, .l 0, .l 0, .l 0, .l 0, .l 0, .l 0, .l 0, .l 0, .l 0, .l 0, .l 0, .l 0, .l 0, .l 0, .l 0, .l 0, .l 0, .l 0, .l 0, .l 0, .l 0, .l 0, .l 0, .l 0, .l 0, .l 0, .l 0]) (by kernel_rfl) fun ρ hρ hd => ?_
      simp only [D_nil, D_add, D_sub, D_mul, D_and, D_or, D_xor, D_shl, D_shr, D_andNot, D_quo, D_rem, D_add_i64, D_sub_i64, D_mul_i64, D_add_u32, D_sub_u32, D_mul_u32, D_add_u8, D_sub_u8, D_mul_u8, D_eql, D_neq, D_lss, D_leq, D_gtr, D_geq, D_not, D_conv, D_eqs, D_call, D_cond, D_need, D_idx, D_sel, D_upd, D_shv, D_beq, List.map_cons, List.map_nil, Ref.den] at hd
      obtain ⟨h32, h33, h34, h35, h36, h52, h68, h84, h100, h116, h132, h148, h164, h197, -⟩ := hd
      obtain ⟨e32, e33⟩ := start ρ hρ h32 h33
      have s34 : ρ 34 = b2i (decide (dv 256 (seg ρ 0 31 ++ [ρ 33]) < PP)) := h34 0 (by decide)
      rw [e33, vY] at s34
      have k35 := not_bit h35 (show ρ 34 = 1 by rw [s34, decide_eq_true c1]; rfl)
      have s36 : seg ρ 36 16 = pairs16 (dg 256 32 Y) := by
        have := seg_of (ρ := ρ) (n := 36) (g := pairs16 (seg ρ 0 31 ++ [ρ 33])) h36 (by rw [e33]; exact fY.len)
        rw [e33] at this; exact this
      have f36 : FF (seg ρ 36 16) := by rw [s36]; exact fY
      have s52 : seg ρ 52 16 = mulF (seg ρ 36 16) (seg ρ 36 16) := seg_of h52 (mulF_ok f36 f36).1.len
      have f52 : FF (seg ρ 52 16) := by rw [s52]; exact (mulF_ok f36 f36).1
      have s68 : seg ρ 68 16 = minF (seg ρ 52 16) ([1, 0, 0, 0, 0, 0, 0, 0, 0, 0, 0, 0, 0, 0, 0, 0]) := seg_of h68 (minF_ok f52 oneF_ff).1.len
      have f68 : FF (seg ρ 68 16) := by rw [s68]; exact (minF_ok f52 oneF_ff).1
      have s84 : seg ρ 84 16 = dL := seg_of h84 dL_ok.1.len
      have f84 : FF (seg ρ 84 16) := by rw [s84]; exact dL_ok.1
      have s100 : seg ρ 100 16 = mulF (seg ρ 84 16) (seg ρ 52 16) := seg_of h100 (mulF_ok f84 f52).1.len
      have f100 : FF (seg ρ 100 16) := by rw [s100]; exact (mulF_ok f84 f52).1
      have s116 : seg ρ 116 16 = plusF (seg ρ 100 16) ([1, 0, 0, 0, 0, 0, 0, 0, 0, 0, 0, 0, 0, 0, 0, 0]) := seg_of h116 (plusF_ok f100 oneF_ff).1.len
      have f116 : FF (seg ρ 116 16) := by rw [s116]; exact (plusF_ok f100 oneF_ff).1
      have s132 : seg ρ 132 16 = powF (seg ρ 116 16) (PP - 2) 256 := seg_of h132 (powF_ff f116 _ _).len
      have f132 : FF (seg ρ 132 16) := by rw [s132]; exact powF_ff f116 _ _
      have s148 : seg ρ 148 16 = mulF (seg ρ 68 16) (seg ρ 132 16) := seg_of h148 (mulF_ok f68 f132).1.len
      have f148 : FF (seg ρ 148 16) := by rw [s148]; exact (mulF_ok f68 f132).1
      have e148 : seg ρ 148 16 = dx2 Y := by
        rw [s148, s68, s132, s116, s100, s52, s84, s36]
        exact (show dx2 Y = _ by rw [dx2]; rfl).symm
      have h164 : ∀ i, i < 33 → ρ (164 + i) = (if timesZ (rootT (dv 65536 (dx2 Y))) (rootT (dv 65536 (dx2 Y))) % PP = dv 65536 (dx2 Y) % PP then dg 256 32 (R) ++ [1] else dg 256 32 0 ++ [0]).getD i 0 := fun i hi => by
        have h : ρ (164 + i) = (hfns.g 58 [seg ρ 148 16]).getD i 0 := h164 i hi
        rw [hg58, e148] at h; rw [h, hR, dr]
      have c2' := c2
      unfold rtOK at c2'
      simp only [if_neg c2'] at h164
      have r196 : ρ 196 = 0 := h164 32 (by decide)
      have k197 : decide (ρ 197 ≠ 0) = true := by rw [not_bit0 h197 r196]; rfl
      rw [if_neg (fun h => c2 (eO.1 h).2.1)]
      exact ⟨by simp only [G_nil, G_bin, G_cmp, G_not, G_conv, G_eqs, G_call, G_cond, G_need, G_idx, G_sel, G_upd, G_shv, G_beq, List.map_cons, List.map_nil, Ref.den]; exact ⟨trivial, k35, trivial, ⟨f36, f36⟩, ⟨f52, oneF_ff⟩, trivial, ⟨f84, f52⟩, ⟨f100, oneF_ff⟩, f116, ⟨f68, f132⟩, f148, k197, trivial⟩, rfl⟩
  · refine Go.Sx.Way.of (dec := [true]) (fs := [.bin 32 .shr .u8 (.v 31) (.l 7), .bin 33 .and .u8 (.v 31) (.l 127), .need 64 [[.v 0, .v 1, .v 2, .v 3, .v 4, .v 5, .v 6, .v 7, .v 8, .v 9, .v 10, .v 11, .v 12, .v 13, .v 14, .v 15, .v 16, .v 17, .v 18, .v 19, .v 20, .v 21, .v 22, .v 23, .v 24, .v 25, .v 26, .v 27, .v 28, .v 29, .v 30, .v 33]], .call 34 64 [[.v 0, .v 1, .v 2, .v 3, .v 4, .v 5, .v 6, .v 7, .v 8, .v 9, .v 10, .v 11, .v 12, .v 13, .v 14, .v 15, .v 16, .v 17, .v 18, .v 19, .v 20, .v 21, .v 22, .v 23, .v 24, .v 25, .v 26, .v 27, .v 28, .v 29, .v 30, .v 33]] 1, .not 35 (.v 34), .cond 35 true]) (refs := [.l 0, .l 0, .l 0, .l 0, .l 0, .l 0, .l 0, .l 0, .l 0, .l 0, .l 0, .l 0, .l 0, .l 0, .l 0, .l 0, .l 0, .l 0, .l 0, .l 0, .l 0, .l 0, .l 0, .l 0, .l 0, .l 0, .l 0, .l 0, .l 0, .l 0, .l 0, .l 0, .l 0, .l 0, .l 0, .l 0, .l 0, .l 0, .l 0, .l 0, .l 0, .l 0, .l 0, .l 0, .l 0, .l 0, .l 0, .l 0, .l 0, .l 0, .l 0, .l 0, .l 0, .l 0, .l 0, .l 0, .l 0, .l 0, .l 0, .l 0, .l 0, .l 0, .l 0, .l 0, .l 0]) (by kernel_rfl) fun ρ hρ hd => ?_
    simp only [D_nil, D_add, D_sub, D_mul, D_and, D_or, D_xor, D_shl, D_shr, D_andNot, D_quo, D_rem, D_add_i64, D_sub_i64, D_mul_i64, D_add_u32, D_sub_u32, D_mul_u32, D_add_u8, D_sub_u8, D_mul_u8, D_eql, D_neq, D_lss, D_leq, D_gtr, D_geq, D_not, D_conv, D_eqs, D_call, D_cond, D_need, D_idx, D_sel, D_upd, D_shv, D_beq, List.map_cons, List.map_nil, Ref.den] at hd
    obtain ⟨h32, h33, h34, h35, -⟩ := hd
    obtain ⟨e32, e33⟩ := start ρ hρ h32 h33
    have s34 : ρ 34 = b2i (decide (dv 256 (seg ρ 0 31 ++ [ρ 33]) < PP)) := h34 0 (by decide)
    rw [e33, vY, decide_eq_false c1] at s34
    have k35 : decide (ρ 35 ≠ 0) = true := by rw [not_bit0 h35 s34]; rfl
    rw [if_neg (fun h => c1 (eO.1 h).1)]
    exact ⟨by simp only [G_nil, G_bin, G_cmp, G_not, G_conv, G_eqs, G_call, G_cond, G_need, G_idx, G_sel, G_upd, G_shv, G_beq, List.map_cons, List.map_nil, Ref.den]; exact ⟨trivial, k35, trivial⟩, rfl⟩
end Go.Proofs.Ytfobnajgnnccmaa

namespace Go.Bx
theorem HLt : 0 < H255 ∧ WW = 2 * H255 ∧ PP < H255 := by decide
theorem powZ_cong {a b : Int} (h : a % PP = b % PP) {N : Int} (h0 : 0 ≤ N) (h1 : N < WW) : powZ a N 256 % PP = powZ b N 256 % PP := by
  rw [powZ_all a h0 h1, powZ_all b h0 h1]; exact pow_congP h _
theorem rootT_cong {a b : Int} (h : a % PP = b % PP) : rootT a % PP = rootT b % PP := by
  have e := powZ_cong h (N := E8) (by decide) (by decide)
  unfold rootT
  have c : timesZ (powZ a E8 256) (powZ a E8 256) % PP = a % PP ↔ timesZ (powZ b E8 256) (powZ b E8 256) % PP = b % PP := by
    rw [ti e e, timesZ_mod, h]
  by_cases d : timesZ (powZ b E8 256) (powZ b E8 256) % PP = b % PP
  · rw [if_pos d, if_pos (c.2 d)]; exact e
  · rw [if_neg d, if_neg (fun h => d (c.1 h))]; exact (ti e rfl).trans (timesZ_mod _ _).symm
theorem x2_mod {Y : Int} (h0 : 0 ≤ Y) (h1 : Y < H255) : dv 65536 (dx2 Y) % PP = argQ Y % PP := by
  have i := in_ff (dg_len 256 32 Y) (dg_dig (by decide) _ _)
  have vY : dv 256 (dg 256 32 Y) = Y := dv_dg_of (by decide) h0 (Int.lt_trans h1 (by decide))
  have e0 : dv 65536 (pairs16 (dg 256 32 Y)) % PP = Y % PP := by rw [i.2, vY]
  have m := mulF_ok i.1 i.1
  have em := m.2.trans ((mul_congP e0 e0).trans (timesZ_mod Y Y).symm)
  have a := minF_ok m.1 oneF_ff
  have ea := a.2.trans ((sub_congP em (by decide : dv 65536 oneF % PP = 1 % PP)).trans (minZ_mod _ _).symm)
  have b := mulF_ok dL_ok.1 m.1
  have eb := b.2.trans ((mul_congP dL_ok.2 em).trans (timesZ_mod _ _).symm)
  have c := plusF_ok b.1 oneF_ff
  have ec := c.2.trans ((add_congP eb (by decide : dv 65536 oneF % PP = 1 % PP)).trans (plusZ_mod _ _).symm)
  have p := powF_ff c.1 (PP - 2) 256
  have ep := powF_mod c.1 ec (PP - 2) 256
  have x := mulF_ok a.1 p
  exact x.2.trans ((mul_congP ea ep).trans (timesZ_mod _ _).symm)
/-- The point of bytes. -/
def pt (A : Int) : Int × Int := (decX A % PP, A % H255)
theorem ev_cases {r : Int} (hr : 0 ≤ r ∧ r < PP) : (evenZ r = r ∧ r % 2 = 0) ∨ (evenZ r = PP - r ∧ r % 2 = 1 ∧ 0 < r) := by
  unfold evenZ
  by_cases c : r % 2 = 1
  · rw [if_pos c, minZ_mod, show 0 - r = (PP - r) + PP * (-1) by omega, Int.add_mul_emod_self_left, Int.emod_eq_of_lt (by omega) (by omega)]
    exact .inr ⟨rfl, c, by omega⟩
  · rw [if_neg c]; exact .inl ⟨rfl, by omega⟩
theorem dr_key {r q x : Int} (hr : 0 ≤ r ∧ r < PP) (hq : q = 0 ∨ q = 1) (hx : x % PP = (if q = 1 then (0 - evenZ r) % PP else evenZ r % PP)) : (evenZ r = 0 ↔ r = 0) ∧ (if r % 2 = q then r else (0 - r) % PP) = x % PP := by
  have ho := PP_odd
  have em : ∀ y : Int, 0 < y → y < PP → (0 - y) % PP = PP - y := fun y h0 h1 => by
    rw [show 0 - y = (PP - y) + PP * (-1) by omega, Int.add_mul_emod_self_left, Int.emod_eq_of_lt (by omega) (by omega)]
  rw [hx]
  rcases ev_cases hr with ⟨e, h2⟩ | ⟨e, h2, h3⟩
  · rw [e]
    refine ⟨Iff.rfl, ?_⟩
    rcases hq with rfl | rfl
    · rw [if_pos h2, if_neg (by decide), Int.emod_eq_of_lt hr.1 hr.2]
    · rw [if_neg (by omega), if_pos rfl]
  · rw [e]
    refine ⟨by omega, ?_⟩
    rcases hq with rfl | rfl
    · rw [if_neg (by omega), if_neg (by decide), em r h3 hr.2, Int.emod_eq_of_lt (by omega) (by omega)]
    · rw [if_pos h2, if_pos rfl, em (PP - r) (by omega) (by omega)]; omega
theorem okF_key {A : Int} (h0 : 0 ≤ A) (h1 : A < WW) : (okF A ↔ decOK A) ∧ drr A = decX A % PP := by
  have hH := HLt
  have y0 := Int.emod_nonneg A (b := H255) (by omega)
  have y1 := Int.emod_lt_of_pos A hH.1
  have hq : A / H255 = 0 ∨ A / H255 = 1 := by
    have : 0 ≤ A / H255 := Int.ediv_nonneg h0 (by omega)
    have : A / H255 < 2 := Int.ediv_lt_of_lt_mul hH.1 (by omega)
    omega
  have hx := x2_mod y0 y1
  have hr := rootT_cong hx
  have er : dr (A % H255) = rootT (argQ (A % H255)) % PP := hr
  have ee : eroot (argQ (A % H255)) = evenZ (dr (A % H255)) := by rw [er]; rfl
  have hX : decX A % PP = (if A / H255 = 1 then (0 - evenZ (dr (A % H255))) % PP else evenZ (dr (A % H255)) % PP) := by
    unfold decX
    rw [ee]
    split
    · rw [minZ_mod]
    · rfl
  have k := dr_key (rmod (rootT (dv 65536 (dx2 (A % H255))))) hq hX
  refine ⟨?_, k.2⟩
  have hrt : rtOK (dv 65536 (dx2 (A % H255))) ↔ rtOK (argQ (A % H255)) := by
    unfold rtOK
    rw [ti hr hr, timesZ_mod, hx]
  unfold okF decOK
  rw [hrt, ee]
  have k1 := k.1
  have e1 : dr (A % H255) = rootT (dv 65536 (dx2 (A % H255))) % PP := rfl
  rw [← e1] at k1
  rw [k1]
  exact ⟨fun h => ⟨h.1, h.2.1, fun g => h.2.2 ⟨g.2, g.1⟩⟩, fun h => ⟨h.1, h.2.1, fun g => h.2.2 ⟨g.2, g.1⟩⟩⟩
theorem pt_ok {A : Int} (h0 : 0 ≤ A) (h1 : A < WW) (h : decOK A) : onC (pt A) ∧ cn (pt A) ∧ Rep (decQ A) (pt A) := ⟨(dec_ok h0 h1 h).1, (dec_ok h0 h1 h).2.1, (dec_ok h0 h1 h).2.2.1⟩
theorem Rep.at' {p : Int × Int} {X Y T : Int} (hX : X % PP = p.1 % PP) (hY : Y % PP = p.2 % PP) (hT : T % PP = (p.1 * p.2) % PP) (on : onC p) (c : Go.Bx.cn p) : Rep ⟨X, Y, 1, T⟩ p :=
  ⟨not_one, by simp only [Int.mul_one]; exact hX, by simp only [Int.mul_one]; exact hY, by simp only [Int.mul_one]; exact hT, on, c⟩
theorem decF_ok {A : Int} (h0 : 0 ≤ A) (h1 : A < WW) (h : decOK A) : PF (decF A) ∧ (decF A).length = 64 ∧ Rep (fQ' (decF A)) (pt A) := by
  obtain ⟨o, c, -⟩ := pt_ok h0 h1 h
  have hH := HLt
  have y0 := Int.emod_nonneg A (b := H255) (by omega)
  have y1 := Int.emod_lt_of_pos A hH.1
  have kx := (okF_key h0 h1).2
  have ix := in_ff (dg_len 256 32 (drr A)) (dg_dig (by decide) _ _)
  have iy := in_ff (dg_len 256 32 (A % H255)) (dg_dig (by decide) _ _)
  have m := mulF_ok ix.1 iy.1
  have vy : dv 256 (dg 256 32 (A % H255)) = A % H255 := dv_dg_of (by decide) y0 (Int.lt_trans y1 (by decide))
  have vx : dv 256 (dg 256 32 (drr A)) = decX A % PP := by
    rw [kx]; exact dv_dg_of (by decide) (rmod _).1 (Int.lt_trans (rmod _).2 (by decide))
  refine ⟨four_ff ix.1 iy.1 oneF_ff m.1, (four_parts ix.1.len iy.1.len oneF_ff.len m.1.len).2.2.2.2, ?_⟩
  have e : fQ' (decF A) = _ := four_Q ix.1 iy.1 oneF_ff m.1
  rw [e, show dv 65536 oneF = 1 from by decide]
  refine Rep.at' ?_ ?_ ?_ o c
  · rw [ix.2, vx]; rfl
  · rw [iy.2, vy]; rfl
  · rw [m.2, ix.2, iy.2, vx, vy]; rfl
theorem encF_ok {p : List Int} {a : Int × Int} (hp : PF p) (ha : Rep (fQ' p) a) : encF p = pe a := by
  have z := powF_ff hp.z (PP - 2) 256
  have ez := powF_mod hp.z (rfl : dv 65536 (pZ p) % PP = dv 65536 (pZ p) % PP) (PP - 2) 256
  have x := mulF_ok hp.x z
  have y := mulF_ok hp.y z
  have ex : dv 65536 (mulF (pX p) (powF (pZ p) (PP - 2) 256)) % PP = affX (fQ' p) := x.2.trans ((mul_congP rfl ez).trans (timesZ_mod _ _).symm)
  have ey : dv 65536 (mulF (pY p) (powF (pZ p) (PP - 2) 256)) % PP = affY (fQ' p) := y.2.trans ((mul_congP rfl ez).trans (timesZ_mod _ _).symm)
  unfold encF pe enc
  rw [ex, ey, ha.aff.1, ha.aff.2]
theorem negF_ok {p : List Int} {a : Int × Int} (hp : PF p) (ha : Rep (fQ' p) a) : PF (negF p) ∧ Rep (fQ' (negF p)) (pneg a) := by
  have x := minF_ok zF_ff hp.x
  have t := minF_ok zF_ff hp.t
  refine ⟨four_ff x.1 hp.y hp.z t.1, ?_⟩
  have e : fQ' (negF p) = _ := four_Q x.1 hp.y hp.z t.1
  rw [e]
  have hz := ha.z
  have hx := ha.x
  have hy := ha.y
  have ht := ha.t
  have z0 : dv 65536 (List.replicate 16 (0 : Int)) = 0 := by decide
  rw [z0] at x t
  have px := Z.mod (0 - a.1)
  refine ⟨hz, ?_, hy, ?_, pneg_on ha.on, pneg_cn ha.cn⟩
  · refine x.2.trans ((sub_congP rfl hx).trans (Z.iff.1 ?_))
    simp only [pneg]
    exact Z.of1 (a := -(fQ' p).z) (by simp only [fQ']; grind) px
  · refine t.2.trans ((sub_congP rfl ht).trans (Z.iff.1 ?_))
    simp only [pneg]
    exact Z.of1 (a := -(a.2 * (fQ' p).z)) (by simp only [fQ']; grind) px
end Go.Bx
namespace Go.Proofs.Ytfobnajgnnccmaa
open Go.RowKit Go.Bx Go.Sx
set_option linter.unusedSimpArgs false
set_option linter.unusedVariables false
def HT3 : List Ctr := cHMul :: cHEnc :: cHDec :: HT2
theorem okHT3 : ∀ c ∈ HT3, CtrOK Try.prog hfns c := by
  intro c hc
  rcases List.mem_cons.1 hc with rfl | hc
  · exact okHMul
  rcases List.mem_cons.1 hc with rfl | hc
  · exact okHEnc
  rcases List.mem_cons.1 hc with rfl | hc
  · exact okHDec
  · exact okHT2 c hc
theorem dec_yes {ρ : Nat → Int} {n : Nat} {A : Int} (l : (decF A).length = 64) (h : ∀ i, i < 65 → ρ (n + i) = (if okF A then decF A ++ [1] else List.replicate 64 0 ++ [0]).getD i 0) (c : okF A) : seg ρ n 64 = decF A ∧ ρ (n + 64) = 1 := by
  rw [if_pos c] at h
  obtain ⟨h1, h2⟩ := splitN (R := [1]) l h
  exact ⟨h1, h2 0 (by decide)⟩
theorem dec_no {ρ : Nat → Int} {n : Nat} {A : Int} (h : ∀ i, i < 65 → ρ (n + i) = (if okF A then decF A ++ [1] else List.replicate 64 0 ++ [0]).getD i 0) (c : ¬ okF A) : ρ (n + 64) = 0 := by
  rw [if_neg c] at h
  exact h 64 (by decide)
def cHPAdd : Ctr := ⟨16, 125, [.arr .u8 32, .arr .u8 32], [.arr .u8 32, .bool]⟩
def cHPNeg : Ctr := ⟨18, 126, [.arr .u8 32], [.arr .u8 32, .bool]⟩
def cHPMul : Ctr := ⟨20, 127, [.arr .u8 32, .arr .u8 32], [.arr .u8 32, .bool]⟩
def cHAt : Ctr := ⟨22, 128, [.arr .u8 32], [.arr .u8 32, .arr .u8 32, .bool]⟩
theorem okHPAdd : CtrOK Try.prog hfns cHPAdd := by
  refine CtrOK.of okHT3 mixed (lf := 300) (d := 5) rfl fun w vs xs ha _ => ?_
  obtain ⟨v, u, a, b, rfl, rfl, ⟨la, -, ia⟩, ⟨lb, -, ib⟩⟩ := open2 ha
  have bA := bd32 la ia
  have bB := bd32 lb ib
  rw [show hfns.g cHPAdd.j [a, b] = (if okF (dv 256 a) ∧ okF (dv 256 b) then encF (addF (decF (dv 256 a)) (decF (dv 256 b)) dL) ++ [1] else List.replicate 32 0 ++ [0]) from rfl]
  by_cases c1 : okF (dv 256 a)
  · have d1 := decF_ok bA.1 bA.2 ((okF_key bA.1 bA.2).1.1 c1)
    by_cases c2 : okF (dv 256 b)
    · have d2 := decF_ok bB.1 bB.2 ((okF_key bB.1 bB.2).1.1 c2)
      have d3 := addF_ok d1.1 d2.1 dL_ok.1 dL_ok.2
      rw [if_pos ⟨c1, c2⟩]
      refine Go.Sx.Way.of (dec := [false,false]) (fs := [.need 124 [[.v 0, .v 1, .v 2, .v 3, .v 4, .v 5, .v 6, .v 7, .v 8, .v 9, .v 10, .v 11, .v 12, .v 13, .v 14, .v 15, .v 16, .v 17, .v 18, .v 19, .v 20, .v 21, .v 22, .v 23, .v 24, .v 25, .v 26, .v 27, .v 28, .v 29, .v 30, .v 31]], .call 64 124 [[.v 0, .v 1, .v 2, .v 3, .v 4, .v 5, .v 6, .v 7, .v 8, .v 9, .v 10, .v 11, .v 12, .v 13, .v 14, .v 15, .v 16, .v 17, .v 18, .v 19, .v 20, .v 21, .v 22, .v 23, .v 24, .v 25, .v 26, .v 27, .v 28, .v 29, .v 30, .v 31]] 65, .need 124 [[.v 32, .v 33, .v 34, .v 35, .v 36, .v 37, .v 38, .v 39, .v 40, .v 41, .v 42, .v 43, .v 44, .v 45, .v 46, .v 47, .v 48, .v 49, .v 50, .v 51, .v 52, .v 53, .v 54, .v 55, .v 56, .v 57, .v 58, .v 59, .v 60, .v 61, .v 62, .v 63]], .call 129 124 [[.v 32, .v 33, .v 34, .v 35, .v 36, .v 37, .v 38, .v 39, .v 40, .v 41, .v 42, .v 43, .v 44, .v 45, .v 46, .v 47, .v 48, .v 49, .v 50, .v 51, .v 52, .v 53, .v 54, .v 55, .v 56, .v 57, .v 58, .v 59, .v 60, .v 61, .v 62, .v 63]] 65, .not 194 (.v 128), .cond 194 false, .not 195 (.v 193), .cond 195 false, .need 120 [], .call 196 120 [] 16, .need 121 [[.v 64, .v 65, .v 66, .v 67, .v 68, .v 69, .v 70, .v 71, .v 72, .v 73, .v 74, .v 75, .v 76, .v 77, .v 78, .v 79, .v 80, .v 81, .v 82, .v 83, .v 84, .v 85, .v 86, .v 87, .v 88, .v 89, .v 90, .v 91, .v 92, .v 93, .v 94, .v 95, .v 96, .v 97, .v 98, .v 99, .v 100, .v 101, .v 102, .v 103, .v 104, .v 105, .v 106, .v 107, .v 108, .v 109, .v 110, .v 111, .v 112, .v 113, .v 114, .v 115, .v 116, .v 117, .v 118, .v 119, .v 120, .v 121, .v 122, .v 123, .v 124, .v 125, .v 126, .v 127], [.v 129, .v 130, .v 131, .v 132, .v 133, .v 134, .v 135, .v 136, .v 137, .v 138, .v 139, .v 140, .v 141, .v 142, .v 143, .v 144, .v 145, .v 146, .v 147, .v 148, .v 149, .v 150, .v 151, .v 152, .v 153, .v 154, .v 155, .v 156, .v 157, .v 158, .v 159, .v 160, .v 161, .v 162, .v 163, .v 164, .v 165, .v 166, .v 167, .v 168, .v 169, .v 170, .v 171, .v 172, .v 173, .v 174, .v 175, .v 176, .v 177, .v 178, .v 179, .v 180, .v 181, .v 182, .v 183, .v 184, .v 185, .v 186, .v 187, .v 188, .v 189, .v 190, .v 191, .v 192], [.v 196, .v 197, .v 198, .v 199, .v 200, .v 201, .v 202, .v 203, .v 204, .v 205, .v 206, .v 207, .v 208, .v 209, .v 210, .v 211]], .call 212 121 [[.v 64, .v 65, .v 66, .v 67, .v 68, .v 69, .v 70, .v 71, .v 72, .v 73, .v 74, .v 75, .v 76, .v 77, .v 78, .v 79, .v 80, .v 81, .v 82, .v 83, .v 84, .v 85, .v 86, .v 87, .v 88, .v 89, .v 90, .v 91, .v 92, .v 93, .v 94, .v 95, .v 96, .v 97, .v 98, .v 99, .v 100, .v 101, .v 102, .v 103, .v 104, .v 105, .v 106, .v 107, .v 108, .v 109, .v 110, .v 111, .v 112, .v 113, .v 114, .v 115, .v 116, .v 117, .v 118, .v 119, .v 120, .v 121, .v 122, .v 123, .v 124, .v 125, .v 126, .v 127], [.v 129, .v 130, .v 131, .v 132, .v 133, .v 134, .v 135, .v 136, .v 137, .v 138, .v 139, .v 140, .v 141, .v 142, .v 143, .v 144, .v 145, .v 146, .v 147, .v 148, .v 149, .v 150, .v 151, .v 152, .v 153, .v 154, .v 155, .v 156, .v 157, .v 158, .v 159, .v 160, .v 161, .v 162, .v 163, .v 164, .v 165, .v 166, .v 167, .v 168, .v 169, .v 170, .v 171, .v 172, .v 173, .v 174, .v 175, .v 176, .v 177, .v 178, .v 179, .v 180, .v 181, .v 182, .v 183, .v 184, .v 185, .v 186, .v 187, .v 188, .v 189, .v 190, .v 191, .v 192], [.v 196, .v 197, .v 198, .v 199, .v 200, .v 201, .v 202, .v 203, .v 204, .v 205, .v 206, .v 207, .v 208, .v 209, .v 210, .v 211]] 64, .need 123 [[.v 212, .v 213, .v 214, .v 215, .v 216, .v 217, .v 218, .v 219, .v 220, .v 221, .v 222, .v 223, .v 224, .v 225, .v 226, .v 227, .v 228, .v 229, .v 230, .v 231, .v 232, .v 233, .v 234, .v 235, .v 236, .v 237, .v 238, .v 239, .v 240, .v 241, .v 242, .v 243, .v 244, .v 245, .v 246, .v 247, .v 248, .v 249, .v 250, .v 251, .v 252, .v 253, .v 254, .v 255, .v 256, .v 257, .v 258, .v 259, .v 260, .v 261, .v 262, .v 263, .v 264, .v 265, .v 266, .v 267, .v 268, .v 269, .v 270, .v 271, .v 272, .v 273, .v 274, .v 275]], .call 276 123 [[.v 212, .v 213, .v 214, .v 215, .v 216, .v 217, .v 218, .v 219, .v 220, .v 221, .v 222, .v 223, .v 224, .v 225, .v 226, .v 227, .v 228, .v 229, .v 230, .v 231, .v 232, .v 233, .v 234, .v 235, .v 236, .v 237, .v 238, .v 239, .v 240, .v 241, .v 242, .v 243, .v 244, .v 245, .v 246, .v 247, .v 248, .v 249, .v 250, .v 251, .v 252, .v 253, .v 254, .v 255, .v 256, .v 257, .v 258, .v 259, .v 260, .v 261, .v 262, .v 263, .v 264, .v 265, .v 266, .v 267, .v 268, .v 269, .v 270, .v 271, .v 272, .v 273, .v 274, .v 275]] 32]) (refs := [.v 276, .v 277, .v 278, .v 279, .v 280, .v 281, .v 282, .v 283, .v 284, .v 285, .v 286, .v 287, .v 288, .v 289, .v 290, .v 291, .v 292, .v 293, .v 294, .v 295, .v 296, .v 297, .v 298, .v 299, .v 300, .v 301, .v 302, .v 303, .v 304, .v 305, .v 306, .v 307, .l 1]) (by kernel_rfl) fun ρ hρ hd => ?_
      obtain ⟨ea, eb⟩ := seg2 la lb hρ
      simp only [D_nil, D_add, D_sub, D_mul, D_and, D_or, D_xor, D_shl, D_shr, D_andNot, D_quo, D_rem, D_add_i64, D_sub_i64, D_mul_i64, D_add_u32, D_sub_u32, D_mul_u32, D_add_u8, D_sub_u8, D_mul_u8, D_eql, D_neq, D_lss, D_leq, D_gtr, D_geq, D_not, D_conv, D_eqs, D_call, D_cond, D_need, D_idx, D_sel, D_upd, D_shv, D_beq, List.map_cons, List.map_nil, Ref.den] at hd
      obtain ⟨h64, h129, h194, h195, h196, h212, h276, -⟩ := hd
      obtain ⟨s64, k128⟩ := dec_yes (A := dv 256 (seg ρ 0 32)) (by rw [ea]; exact d1.2.1) h64 (by rw [ea]; exact c1)
      obtain ⟨s129, k193⟩ := dec_yes (A := dv 256 (seg ρ 32 32)) (by rw [eb]; exact d2.2.1) h129 (by rw [eb]; exact c2)
      rw [ea] at s64
      rw [eb] at s129
      have k194 := not_bit h194 k128
      have k195 := not_bit h195 k193
      have s196 : seg ρ 196 16 = dL := seg_of h196 dL_ok.1.len
      have s212 : seg ρ 212 64 = addF (seg ρ 64 64) (seg ρ 129 64) (seg ρ 196 16) := seg_of h212 (by rw [s64, s129, s196]; exact d3.2.1)
      rw [s64, s129, s196] at s212
      have s276 : seg ρ 276 32 = encF (seg ρ 212 64) := seg_of h276 (dg_len _ _ _)
      rw [s212] at s276
      refine ⟨by simp only [G_nil, G_bin, G_cmp, G_not, G_conv, G_eqs, G_call, G_cond, G_need, G_idx, G_sel, G_upd, G_shv, G_beq, List.map_cons, List.map_nil, Ref.den]; exact ⟨trivial, trivial, k194, k195, trivial, (show PF (seg ρ 64 64) ∧ PF (seg ρ 129 64) ∧ FF (seg ρ 196 16) ∧ dv 65536 (seg ρ 196 16) % PP = DD % PP by rw [s64, s129, s196]; exact ⟨d1.1, d2.1, dL_ok.1, dL_ok.2⟩), (show PF (seg ρ 212 64) by rw [s212]; exact d3.1), trivial⟩, ?_⟩
      show seg ρ 276 32 ++ [1] = _
      rw [s276]
    · rw [if_neg (fun h => c2 h.2)]
      refine Go.Sx.Way.of (dec := [false,true]) (fs := [.need 124 [[.v 0, .v 1, .v 2, .v 3, .v 4, .v 5, .v 6, .v 7, .v 8, .v 9, .v 10, .v 11, .v 12, .v 13, .v 14, .v 15, .v 16, .v 17, .v 18, .v 19, .v 20, .v 21, .v 22, .v 23, .v 24, .v 25, .v 26, .v 27, .v 28, .v 29, .v 30, .v 31]], .call 64 124 [[.v 0, .v 1, .v 2, .v 3, .v 4, .v 5, .v 6, .v 7, .v 8, .v 9, .v 10, .v 11, .v 12, .v 13, .v 14, .v 15, .v 16, .v 17, .v 18, .v 19, .v 20, .v 21, .v 22, .v 23, .v 24, .v 25, .v 26, .v 27, .v 28, .v 29, .v 30, .v 31]] 65, .need 124 [[.v 32, .v 33, .v 34, .v 35, .v 36, .v 37, .v 38, .v 39, .v 40, .v 41, .v 42, .v 43, .v 44, .v 45, .v 46, .v 47, .v 48, .v 49, .v 50, .v 51, .v 52, .v 53, .v 54, .v 55, .v 56, .v 57, .v 58, .v 59, .v 60, .v 61, .v 62, .v 63]], .call 129 124 [[.v 32, .v 33, .v 34, .v 35, .v 36, .v 37, .v 38, .v 39, .v 40, .v 41, .v 42, .v 43, .v 44, .v 45, .v 46, .v 47, .v 48, .v 49, .v 50, .v 51, .v 52, .v 53, .v 54, .v 55, .v 56, .v 57, .v 58, .v 59, .v 60, .v 61, .v 62, .v 63]] 65, .not 194 (.v 128), .cond 194 false, .not 195 (.v 193), .cond 195 true]) (refs := [.l 0, .l 0, .l 0, .l 0, .l 0, .l 0, .l 0, .l 0, .l 0, .l 0, .l 0, .l 0, .l 0, .l 0, .l 0, .l 0, .l 0, .l 0, .l 0, .l 0, .l 0, .l 0, .l 0, .l 0, .l 0, .l 0, .l 0, .l 0, .l 0, .l 0, .l 0, .l 0, .l 0]) (by kernel_rfl) fun ρ hρ hd => ?_
      obtain ⟨ea, eb⟩ := seg2 la lb hρ
      simp only [D_nil, D_add, D_sub, D_mul, D_and, D_or, D_xor, D_shl, D_shr, D_andNot, D_quo, D_rem, D_add_i64, D_sub_i64, D_mul_i64, D_add_u32, D_sub_u32, D_mul_u32, D_add_u8, D_sub_u8, D_mul_u8, D_eql, D_neq, D_lss, D_leq, D_gtr, D_geq, D_not, D_conv, D_eqs, D_call, D_cond, D_need, D_idx, D_sel, D_upd, D_shv, D_beq, List.map_cons, List.map_nil, Ref.den] at hd
      obtain ⟨h64, h129, h194, h195, -⟩ := hd
      obtain ⟨s64, k128⟩ := dec_yes (A := dv 256 (seg ρ 0 32)) (by rw [ea]; exact d1.2.1) h64 (by rw [ea]; exact c1)
      have k193 := dec_no (A := dv 256 (seg ρ 32 32)) h129 (by rw [eb]; exact c2)
      have k194 := not_bit h194 k128
      have k195 : decide (ρ 195 ≠ 0) = true := by rw [not_bit0 h195 k193]; rfl
      exact ⟨by simp only [G_nil, G_bin, G_cmp, G_not, G_conv, G_eqs, G_call, G_cond, G_need, G_idx, G_sel, G_upd, G_shv, G_beq, List.map_cons, List.map_nil, Ref.den]; exact ⟨trivial, trivial, k194, k195, trivial⟩, rfl⟩
  · rw [if_neg (fun h => c1 h.1)]
    refine Go.Sx.Way.of (dec := [true]) (fs := [.need 124 [[.v 0, .v 1, .v 2, .v 3, .v 4, .v 5, .v 6, .v 7, .v 8, .v 9, .v 10, .v 11, .v 12, .v 13, .v 14, .v 15, .v 16, .v 17, .v 18, .v 19, .v 20, .v 21, .v 22, .v 23, .v 24, .v 25, .v 26, .v 27, .v 28, .v 29, .v 30, .v 31]], .call 64 124 [[.v 0, .v 1, .v 2, .v 3, .v 4, .v 5, .v 6, .v 7, .v 8, .v 9, .v 10, .v 11, .v 12, .v 13, .v 14, .v 15, .v 16, .v 17, .v 18, .v 19, .v 20, .v 21, .v 22, .v 23, .v 24, .v 25, .v 26, .v 27, .v 28, .v 29, .v 30, .v 31]] 65, .need 124 [[.v 32, .v 33, .v 34, .v 35, .v 36, .v 37, .v 38, .v 39, .v 40, .v 41, .v 42, .v 43, .v 44, .v 45, .v 46, .v 47, .v 48, .v 49, .v 50, .v 51, .v 52, .v 53, .v 54, .v 55, .v 56, .v 57, .v 58, .v 59, .v 60, .v 61, .v 62, .v 63]], .call 129 124 [[.v 32, .v 33, .v 34, .v 35, .v 36, .v 37, .v 38, .v 39, .v 40, .v 41, .v 42, .v 43, .v 44, .v 45, .v 46, .v 47, .v 48, .v 49, .v 50, .v 51, .v 52, .v 53, .v 54, .v 55, .v 56, .v 57, .v 58, .v 59, .v 60, .v 61, .v 62, .v 63]] 65, .not 194 (.v 128), .cond 194 true]) (refs := [.l 0, .l 0, .l 0, .l 0, .l 0, .l 0, .l 0, .l 0, .l 0, .l 0, .l 0, .l 0, .l 0, .l 0, .l 0, .l 0, .l 0, .l 0, .l 0, .l 0, .l 0, .l 0, .l 0, .l 0, .l 0, .l 0, .l 0, .l 0, .l 0, .l 0, .l 0, .l 0, .l 0]) (by kernel_rfl) fun ρ hρ hd => ?_
    obtain ⟨ea, eb⟩ := seg2 la lb hρ
    simp only [D_nil, D_add, D_sub, D_mul, D_and, D_or, D_xor, D_shl, D_shr, D_andNot, D_quo, D_rem, D_add_i64, D_sub_i64, D_mul_i64, D_add_u32, D_sub_u32, D_mul_u32, D_add_u8, D_sub_u8, D_mul_u8, D_eql, D_neq, D_lss, D_leq, D_gtr, D_geq, D_not, D_conv, D_eqs, D_call, D_cond, D_need, D_idx, D_sel, D_upd, D_shv, D_beq, List.map_cons, List.map_nil, Ref.den] at hd
    obtain ⟨h64, h129, h194, -⟩ := hd
    have k128 := dec_no (A := dv 256 (seg ρ 0 32)) h64 (by rw [ea]; exact c1)
    have k194 : decide (ρ 194 ≠ 0) = true := by rw [not_bit0 h194 k128]; rfl
    exact ⟨by simp only [G_nil, G_bin, G_cmp, G_not, G_conv, G_eqs, G_call, G_cond, G_need, G_idx, G_sel, G_upd, G_shv, G_beq, List.map_cons, List.map_nil, Ref.den]; exact ⟨trivial, trivial, k194, trivial⟩, rfl⟩
theorem okHPNeg : CtrOK Try.prog hfns cHPNeg := by
  refine CtrOK.of okHT3 mixed (lf := 300) (d := 5) rfl fun w vs xs ha _ => ?_
  obtain ⟨v, a, rfl, rfl, ⟨la, -, ia⟩⟩ := open1 ha
  have bA := bd32 la ia
  rw [show hfns.g cHPNeg.j [a] = (if okF (dv 256 a) then encF (negF (decF (dv 256 a))) ++ [1] else List.replicate 32 0 ++ [0]) from rfl]
  by_cases c1 : okF (dv 256 a)
  · have d1 := decF_ok bA.1 bA.2 ((okF_key bA.1 bA.2).1.1 c1)
    have d2 := negF_ok d1.1 d1.2.2
    rw [if_pos c1]
    refine Go.Sx.Way.of (dec := [false]) (fs := [.need 124 [[.v 0, .v 1, .v 2, .v 3, .v 4, .v 5, .v 6, .v 7, .v 8, .v 9, .v 10, .v 11, .v 12, .v 13, .v 14, .v 15, .v 16, .v 17, .v 18, .v 19, .v 20, .v 21, .v 22, .v 23, .v 24, .v 25, .v 26, .v 27, .v 28, .v 29, .v 30, .v 31]], .call 32 124 [[.v 0, .v 1, .v 2, .v 3, .v 4, .v 5, .v 6, .v 7, .v 8, .v 9, .v 10, .v 11, .v 12, .v 13, .v 14, .v 15, .v 16, .v 17, .v 18, .v 19, .v 20, .v 21, .v 22, .v 23, .v 24, .v 25, .v 26, .v 27, .v 28, .v 29, .v 30, .v 31]] 65, .not 97 (.v 96), .cond 97 false, .need 54 [[.l 0, .l 0, .l 0, .l 0, .l 0, .l 0, .l 0, .l 0, .l 0, .l 0, .l 0, .l 0, .l 0, .l 0, .l 0, .l 0], [.v 32, .v 33, .v 34, .v 35, .v 36, .v 37, .v 38, .v 39, .v 40, .v 41, .v 42, .v 43, .v 44, .v 45, .v 46, .v 47]], .call 98 54 [[.l 0, .l 0, .l 0, .l 0, .l 0, .l 0, .l 0, .l 0, .l 0, .l 0, .l 0, .l 0, .l 0, .l 0, .l 0, .l 0], [.v 32, .v 33, .v 34, .v 35, .v 36, .v 37, .v 38, .v 39, .v 40, .v 41, .v 42, .v 43, .v 44, .v 45, .v 46, .v 47]] 16, .need 54 [[.l 0, .l 0, .l 0, .l 0, .l 0, .l 0, .l 0, .l 0, .l 0, .l 0, .l 0, .l 0, .l 0, .l 0, .l 0, .l 0], [.v 80, .v 81, .v 82, .v 83, .v 84, .v 85, .v 86, .v 87, .v 88, .v 89, .v 90, .v 91, .v 92, .v 93, .v 94, .v 95]], .call 114 54 [[.l 0, .l 0, .l 0, .l 0, .l 0, .l 0, .l 0, .l 0, .l 0, .l 0, .l 0, .l 0, .l 0, .l 0, .l 0, .l 0], [.v 80, .v 81, .v 82, .v 83, .v 84, .v 85, .v 86, .v 87, .v 88, .v 89, .v 90, .v 91, .v 92, .v 93, .v 94, .v 95]] 16, .need 123 [[.v 98, .v 99, .v 100, .v 101, .v 102, .v 103, .v 104, .v 105, .v 106, .v 107, .v 108, .v 109, .v 110, .v 111, .v 112, .v 113, .v 48, .v 49, .v 50, .v 51, .v 52, .v 53, .v 54, .v 55, .v 56, .v 57, .v 58, .v 59, .v 60, .v 61, .v 62, .v 63, .v 64, .v 65, .v 66, .v 67, .v 68, .v 69, .v 70, .v 71, .v 72, .v 73, .v 74, .v 75, .v 76, .v 77, .v 78, .v 79, .v 114, .v 115, .v 116, .v 117, .v 118, .v 119, .v 120, .v 121, .v 122, .v 123, .v 124, .v 125, .v 126, .v 127, .v 128, .v 129]], .call 130 123 [[.v 98, .v 99, .v 100, .v 101, .v 102, .v 103, .v 104, .v 105, .v 106, .v 107, .v 108, .v 109, .v 110, .v 111, .v 112, .v 113, .v 48, .v 49, .v 50, .v 51, .v 52, .v 53, .v 54, .v 55, .v 56, .v 57, .v 58, .v 59, .v 60, .v 61, .v 62, .v 63, .v 64, .v 65, .v 66, .v 67, .v 68, .v 69, .v 70, .v 71, .v 72, .v 73, .v 74, .v 75, .v 76, .v 77, .v 78, .v 79, .v 114, .v 115, .v 116, .v 117, .v 118, .v 119, .v 120, .v 121, .v 122, .v 123, .v 124, .v 125, .v 126, .v 127, .v 128, .v 129]] 32]) (refs := [.v 130, .v 131, .v 132, .v 133, .v 134, .v 135, .v 136, .v 137, .v 138, .v 139, .v 140, .v 141, .v 142, .v 143, .v 144, .v 145, .v 146, .v 147, .v 148, .v 149, .v 150, .v 151, .v 152, .v 153, .v 154, .v 155, .v 156, .v 157, .v 158, .v 159, .v 160, .v 161, .l 1]) (by kernel_rfl) fun ρ hρ hd => ?_
    have ea := seg0 la hρ
    simp only [D_nil, D_add, D_sub, D_mul, D_and, D_or, D_xor, D_shl, D_shr, D_andNot, D_quo, D_rem, D_add_i64, D_sub_i64, D_mul_i64, D_add_u32, D_sub_u32, D_mul_u32, D_add_u8, D_sub_u8, D_mul_u8, D_eql, D_neq, D_lss, D_leq, D_gtr, D_geq, D_not, D_conv, D_eqs, D_call, D_cond, D_need, D_idx, D_sel, D_upd, D_shv, D_beq, List.map_cons, List.map_nil, Ref.den] at hd
    obtain ⟨h32, h97, h98, h114, h130, -⟩ := hd
    obtain ⟨s32, k96⟩ := dec_yes (A := dv 256 (seg ρ 0 32)) (by rw [ea]; exact d1.2.1) h32 (by rw [ea]; exact c1)
    rw [ea] at s32
    have k97 := not_bit h97 k96
    have g32 : seg ρ 32 16 = pX (decF (dv 256 a)) := by rw [← s32]; rfl
    have g48 : seg ρ 48 16 = pY (decF (dv 256 a)) := by rw [← s32]; rfl
    have g64 : seg ρ 64 16 = pZ (decF (dv 256 a)) := by rw [← s32]; rfl
    have g80 : seg ρ 80 16 = pT (decF (dv 256 a)) := by rw [← s32]; rfl
    have f32 : FF (seg ρ 32 16) := by rw [g32]; exact d1.1.x
    have f80 : FF (seg ρ 80 16) := by rw [g80]; exact d1.1.t
    have s98 : seg ρ 98 16 = minF (List.replicate 16 0) (seg ρ 32 16) := seg_of h98 (minF_ok zF_ff f32).1.len
    have s114 : seg ρ 114 16 = minF (List.replicate 16 0) (seg ρ 80 16) := seg_of h114 (minF_ok zF_ff f80).1.len
    have eN : seg ρ 98 16 ++ (seg ρ 48 16 ++ (seg ρ 64 16 ++ seg ρ 114 16)) = negF (decF (dv 256 a)) := by rw [s98, s114, g32, g48, g64, g80]; rfl
    have s130 : seg ρ 130 32 = encF (seg ρ 98 16 ++ (seg ρ 48 16 ++ (seg ρ 64 16 ++ seg ρ 114 16))) := seg_of h130 (dg_len _ _ _)
    rw [eN] at s130
    refine ⟨by simp only [G_nil, G_bin, G_cmp, G_not, G_conv, G_eqs, G_call, G_cond, G_need, G_idx, G_sel, G_upd, G_shv, G_beq, List.map_cons, List.map_nil, Ref.den]; exact ⟨trivial, k97, ⟨zF_ff, f32⟩, ⟨zF_ff, f80⟩, (show PF (seg ρ 98 16 ++ (seg ρ 48 16 ++ (seg ρ 64 16 ++ seg ρ 114 16))) by rw [eN]; exact d2.1), trivial⟩, ?_⟩
    show seg ρ 130 32 ++ [1] = _
    rw [s130]
  · rw [if_neg c1]
    refine Go.Sx.Way.of (dec := [true]) (fs := [.need 124 [[.v 0, .v 1, .v 2, .v 3, .v 4, .v 5, .v 6, .v 7, .v 8, .v 9, .v 10, .v 11, .v 12, .v 13, .v 14, .v 15, .v 16, .v 17, .v 18, .v 19, .v 20, .v 21, .v 22, .v 23, .v 24, .v 25, .v 26, .v 27, .v 28, .v 29, .v 30, .v 31]], .call 32 124 [[.v 0, .v 1, .v 2, .v 3, .v 4, .v 5, .v 6, .v 7, .v 8, .v 9, .v 10, .v 11, .v 12, .v 13, .v 14, .v 15, .v 16, .v 17, .v 18, .v 19, .v 20, .v 21, .v 22, .v 23, .v 24, .v 25, .v 26, .v 27, .v 28, .v 29, .v 30, .v 31]] 65, .not 97 (.v 96), .cond 97 true]) (refs := [.l 0, .l 0, .l 0, .l 0, .l 0, .l 0, .l 0, .l 0, .l 0, .l 0, .l 0, .l 0, .l 0, .l 0, .l 0, .l 0, .l 0, .l 0, .l 0, .l 0, .l 0, .l 0, .l 0, .l 0, .l 0, .l 0, .l 0, .l 0, .l 0, .l 0, .l 0, .l 0, .l 0]) (by kernel_rfl) fun ρ hρ hd => ?_
    have ea := seg0 la hρ
    simp only [D_nil, D_add, D_sub, D_mul, D_and, D_or, D_xor, D_shl, D_shr, D_andNot, D_quo, D_rem, D_add_i64, D_sub_i64, D_mul_i64, D_add_u32, D_sub_u32, D_mul_u32, D_add_u8, D_sub_u8, D_mul_u8, D_eql, D_neq, D_lss, D_leq, D_gtr, D_geq, D_not, D_conv, D_eqs, D_call, D_cond, D_need, D_idx, D_sel, D_upd, D_shv, D_beq, List.map_cons, List.map_nil, Ref.den] at hd
    obtain ⟨h32, h97, -⟩ := hd
    have k96 := dec_no (A := dv 256 (seg ρ 0 32)) h32 (by rw [ea]; exact c1)
    have k97 : decide (ρ 97 ≠ 0) = true := by rw [not_bit0 h97 k96]; rfl
    exact ⟨by simp only [G_nil, G_bin, G_cmp, G_not, G_conv, G_eqs, G_call, G_cond, G_need, G_idx, G_sel, G_upd, G_shv, G_beq, List.map_cons, List.map_nil, Ref.den]; exact ⟨trivial, k97, trivial⟩, rfl⟩
theorem okHPMul : CtrOK Try.prog hfns cHPMul := by
  refine CtrOK.of okHT3 mixed (lf := 300) (d := 5) rfl fun w vs xs ha _ => ?_
  obtain ⟨v, u, n, a, rfl, rfl, ⟨ln, -, _⟩, ⟨la, -, ia⟩⟩ := open2 ha
  have bA := bd32 la ia
  rw [show hfns.g cHPMul.j [n, a] = (if okF (dv 256 a) then encF (mulFn (decF (dv 256 a)) dL (dv 256 n) 256) ++ [1] else List.replicate 32 0 ++ [0]) from rfl]
  by_cases c1 : okF (dv 256 a)
  · have d1 := decF_ok bA.1 bA.2 ((okF_key bA.1 bA.2).1.1 c1)
    have d2 := mulFn_ff d1.1 dL_ok.1 dL_ok.2 (dv 256 n) 256
    rw [if_pos c1]
    refine Go.Sx.Way.of (dec := [false]) (fs := [.need 124 [[.v 32, .v 33, .v 34, .v 35, .v 36, .v 37, .v 38, .v 39, .v 40, .v 41, .v 42, .v 43, .v 44, .v 45, .v 46, .v 47, .v 48, .v 49, .v 50, .v 51, .v 52, .v 53, .v 54, .v 55, .v 56, .v 57, .v 58, .v 59, .v 60, .v 61, .v 62, .v 63]], .call 64 124 [[.v 32, .v 33, .v 34, .v 35, .v 36, .v 37, .v 38, .v 39, .v 40, .v 41, .v 42, .v 43, .v 44, .v 45, .v 46, .v 47, .v 48, .v 49, .v 50, .v 51, .v 52, .v 53, .v 54, .v 55, .v 56, .v 57, .v 58, .v 59, .v 60, .v 61, .v 62, .v 63]] 65, .not 129 (.v 128), .cond 129 false, .need 122 [[.v 0, .v 1, .v 2, .v 3, .v 4, .v 5, .v 6, .v 7, .v 8, .v 9, .v 10, .v 11, .v 12, .v 13, .v 14, .v 15, .v 16, .v 17, .v 18, .v 19, .v 20, .v 21, .v 22, .v 23, .v 24, .v 25, .v 26, .v 27, .v 28, .v 29, .v 30, .v 31], [.v 64, .v 65, .v 66, .v 67, .v 68, .v 69, .v 70, .v 71, .v 72, .v 73, .v 74, .v 75, .v 76, .v 77, .v 78, .v 79, .v 80, .v 81, .v 82, .v 83, .v 84, .v 85, .v 86, .v 87, .v 88, .v 89, .v 90, .v 91, .v 92, .v 93, .v 94, .v 95, .v 96, .v 97, .v 98, .v 99, .v 100, .v 101, .v 102, .v 103, .v 104, .v 105, .v 106, .v 107, .v 108, .v 109, .v 110, .v 111, .v 112, .v 113, .v 114, .v 115, .v 116, .v 117, .v 118, .v 119, .v 120, .v 121, .v 122, .v 123, .v 124, .v 125, .v 126, .v 127]], .call 130 122 [[.v 0, .v 1, .v 2, .v 3, .v 4, .v 5, .v 6, .v 7, .v 8, .v 9, .v 10, .v 11, .v 12, .v 13, .v 14, .v 15, .v 16, .v 17, .v 18, .v 19, .v 20, .v 21, .v 22, .v 23, .v 24, .v 25, .v 26, .v 27, .v 28, .v 29, .v 30, .v 31], [.v 64, .v 65, .v 66, .v 67, .v 68, .v 69, .v 70, .v 71, .v 72, .v 73, .v 74, .v 75, .v 76, .v 77, .v 78, .v 79, .v 80, .v 81, .v 82, .v 83, .v 84, .v 85, .v 86, .v 87, .v 88, .v 89, .v 90, .v 91, .v 92, .v 93, .v 94, .v 95, .v 96, .v 97, .v 98, .v 99, .v 100, .v 101, .v 102, .v 103, .v 104, .v 105, .v 106, .v 107, .v 108, .v 109, .v 110, .v 111, .v 112, .v 113, .v 114, .v 115, .v 116, .v 117, .v 118, .v 119, .v 120, .v 121, .v 122, .v 123, .v 124, .v 125, .v 126, .v 127]] 64, .need 123 [[.v 130, .v 131, .v 132, .v 133, .v 134, .v 135, .v 136, .v 137, .v 138, .v 139, .v 140, .v 141, .v 142, .v 143, .v 144, .v 145, .v 146, .v 147, .v 148, .v 149, .v 150, .v 151, .v 152, .v 153, .v 154, .v 155, .v 156, .v 157, .v 158, .v 159, .v 160, .v 161, .v 162, .v 163, .v 164, .v 165, .v 166, .v 167, .v 168, .v 169, .v 170, .v 171, .v 172, .v 173, .v 174, .v 175, .v 176, .v 177, .v 178, .v 179, .v 180, .v 181, .v 182, .v 183, .v 184, .v 185, .v 186, .v 187, .v 188, .v 189, .v 190, .v 191, .v 192, .v 193]], .call 194 123 [[.v 130, .v 131, .v 132, .v 133, .v 134, .v 135, .v 136, .v 137, .v 138, .v 139, .v 140, .v 141, .v 142, .v 143, .v 144, .v 145, .v 146, .v 147, .v 148, .v 149, .v 150, .v 151, .v 152, .v 153, .v 154, .v 155, .v 156, .v 157, .v 158, .v 159, .v 160, .v 161, .v 162, .v 163, .v 164, .v 165, .v 166, .v 167, .v 168, .v 169, .v 170, .v 171, .v 172, .v 173, .v 174, .v 175, .v 176, .v 177, .v 178, .v 179, .v 180, .v 181, .v 182, .v 183, .v 184, .v 185, .v 186, .v 187, .v 188, .v 189, .v 190, .v 191, .v 192, .v 193]] 32]) (refs := [.v 194, .v 195, .v 196, .v 197, .v 198, .v 199, .v 200, .v 201, .v 202, .v 203, .v 204, .v 205, .v 206, .v 207, .v 208, .v 209, .v 210, .v 211, .v 212, .v 213, .v 214, .v 215, .v 216, .v 217, .v 218, .v 219, .v 220, .v 221, .v 222, .v 223, .v 224, .v 225, .l 1]) (by kernel_rfl) fun ρ hρ hd => ?_
    obtain ⟨en, ea⟩ := seg2 ln la hρ
    simp only [D_nil, D_add, D_sub, D_mul, D_and, D_or, D_xor, D_shl, D_shr, D_andNot, D_quo, D_rem, D_add_i64, D_sub_i64, D_mul_i64, D_add_u32, D_sub_u32, D_mul_u32, D_add_u8, D_sub_u8, D_mul_u8, D_eql, D_neq, D_lss, D_leq, D_gtr, D_geq, D_not, D_conv, D_eqs, D_call, D_cond, D_need, D_idx, D_sel, D_upd, D_shv, D_beq, List.map_cons, List.map_nil, Ref.den] at hd
    obtain ⟨h64, h129, h130, h194, -⟩ := hd
    obtain ⟨s64, k128⟩ := dec_yes (A := dv 256 (seg ρ 32 32)) (by rw [ea]; exact d1.2.1) h64 (by rw [ea]; exact c1)
    rw [ea] at s64
    have k129 := not_bit h129 k128
    have s130 : seg ρ 130 64 = mulFn (seg ρ 64 64) dL (dv 256 (seg ρ 0 32)) 256 := seg_of h130 (by rw [s64, en]; exact d2.2)
    rw [s64, en] at s130
    have s194 : seg ρ 194 32 = encF (seg ρ 130 64) := seg_of h194 (dg_len _ _ _)
    rw [s130] at s194
    refine ⟨by simp only [G_nil, G_bin, G_cmp, G_not, G_conv, G_eqs, G_call, G_cond, G_need, G_idx, G_sel, G_upd, G_shv, G_beq, List.map_cons, List.map_nil, Ref.den]; exact ⟨trivial, k129, (show PF (seg ρ 64 64) by rw [s64]; exact d1.1), (show PF (seg ρ 130 64) by rw [s130]; exact d2.1), trivial⟩, ?_⟩
    show seg ρ 194 32 ++ [1] = _
    rw [s194]
  · rw [if_neg c1]
    refine Go.Sx.Way.of (dec := [true]) (fs := [.need 124 [[.v 32, .v 33, .v 34, .v 35, .v 36, .v 37, .v 38, .v 39, .v 40, .v 41, .v 42, .v 43, .v 44, .v 45, .v 46, .v 47, .v 48, .v 49, .v 50, .v 51, .v 52, .v 53, .v 54, .v 55, .v 56, .v 57, .v 58, .v 59, .v 60, .v 61, .v 62, .v 63]], .call 64 124 [[.v 32, .v 33, .v 34, .v 35, .v 36, .v 37, .v 38, .v 39, .v 40, .v 41, .v 42, .v 43, .v 44, .v 45, .v 46, .v 47, .v 48, .v 49, .v 50, .v 51, .v 52, .v 53, .v 54, .v 55, .v 56, .v 57, .v 58, .v 59, .v 60, .v 61, .v 62, .v 63]] 65, .not 129 (.v 128), .cond 129 true]) (refs := [.l 0, .l 0, .l 0, .l 0, .l 0, .l 0, .l 0, .l 0, .l 0, .l 0, .l 0, .l 0, .l 0, .l 0, .l 0, .l 0, .l 0, .l 0, .l 0, .l 0, .l 0, .l 0, .l 0, .l 0, .l 0, .l 0, .l 0, .l 0, .l 0, .l 0, .l 0, .l 0, .l 0]) (by kernel_rfl) fun ρ hρ hd => ?_
    obtain ⟨en, ea⟩ := seg2 ln la hρ
    simp only [D_nil, D_add, D_sub, D_mul, D_and, D_or, D_xor, D_shl, D_shr, D_andNot, D_quo, D_rem, D_add_i64, D_sub_i64, D_mul_i64, D_add_u32, D_sub_u32, D_mul_u32, D_add_u8, D_sub_u8, D_mul_u8, D_eql, D_neq, D_lss, D_leq, D_gtr, D_geq, D_not, D_conv, D_eqs, D_call, D_cond, D_need, D_idx, D_sel, D_upd, D_shv, D_beq, List.map_cons, List.map_nil, Ref.den] at hd
    obtain ⟨h64, h129, -⟩ := hd
    have k128 := dec_no (A := dv 256 (seg ρ 32 32)) h64 (by rw [ea]; exact c1)
    have k129 : decide (ρ 129 ≠ 0) = true := by rw [not_bit0 h129 k128]; rfl
    exact ⟨by simp only [G_nil, G_bin, G_cmp, G_not, G_conv, G_eqs, G_call, G_cond, G_need, G_idx, G_sel, G_upd, G_shv, G_beq, List.map_cons, List.map_nil, Ref.den]; exact ⟨trivial, k129, trivial⟩, rfl⟩
theorem okHAt : CtrOK Try.prog hfns cHAt := by
  refine CtrOK.of okHT3 mixed (lf := 300) (d := 5) rfl fun w vs xs ha _ => ?_
  obtain ⟨v, a, rfl, rfl, ⟨la, -, ia⟩⟩ := open1 ha
  have bA := bd32 la ia
  rw [show hfns.g cHAt.j [a] = (if okF (dv 256 a) then dg 256 32 (drr (dv 256 a) % PP) ++ (dg 256 32 (dv 256 a % H255 % PP) ++ [1]) else List.replicate 32 0 ++ (List.replicate 32 0 ++ [0])) from rfl]
  by_cases c1 : okF (dv 256 a)
  · have d1 := decF_ok bA.1 bA.2 ((okF_key bA.1 bA.2).1.1 c1)
    rw [if_pos c1]
    refine Go.Sx.Way.of (dec := [false]) (fs := [.need 124 [[.v 0, .v 1, .v 2, .v 3, .v 4, .v 5, .v 6, .v 7, .v 8, .v 9, .v 10, .v 11, .v 12, .v 13, .v 14, .v 15, .v 16, .v 17, .v 18, .v 19, .v 20, .v 21, .v 22, .v 23, .v 24, .v 25, .v 26, .v 27, .v 28, .v 29, .v 30, .v 31]], .call 32 124 [[.v 0, .v 1, .v 2, .v 3, .v 4, .v 5, .v 6, .v 7, .v 8, .v 9, .v 10, .v 11, .v 12, .v 13, .v 14, .v 15, .v 16, .v 17, .v 18, .v 19, .v 20, .v 21, .v 22, .v 23, .v 24, .v 25, .v 26, .v 27, .v 28, .v 29, .v 30, .v 31]] 65, .not 97 (.v 96), .cond 97 false, .need 52 [[.v 32, .v 33, .v 34, .v 35, .v 36, .v 37, .v 38, .v 39, .v 40, .v 41, .v 42, .v 43, .v 44, .v 45, .v 46, .v 47]], .call 98 52 [[.v 32, .v 33, .v 34, .v 35, .v 36, .v 37, .v 38, .v 39, .v 40, .v 41, .v 42, .v 43, .v 44, .v 45, .v 46, .v 47]] 32, .need 52 [[.v 48, .v 49, .v 50, .v 51, .v 52, .v 53, .v 54, .v 55, .v 56, .v 57, .v 58, .v 59, .v 60, .v 61, .v 62, .v 63]], .call 130 52 [[.v 48, .v 49, .v 50, .v 51, .v 52, .v 53, .v 54, .v 55, .v 56, .v 57, .v 58, .v 59, .v 60, .v 61, .v 62, .v 63]] 32]) (refs := [.v 98, .v 99, .v 100, .v 101, .v 102, .v 103, .v 104, .v 105, .v 106, .v 107, .v 108, .v 109, .v 110, .v 111, .v 112, .v 113, .v 114, .v 115, .v 116, .v 117, .v 118, .v 119, .v 120, .v 121, .v 122, .v 123, .v 124, .v 125, .v 126, .v 127, .v 128, .v 129, .v 130, .v 131, .v 132, .v 133, .v 134, .v 135, .v 136, .v 137, .v 138, .v 139, .v 140, .v 141, .v 142, .v 143, .v 144, .v 145, .v 146, .v 147, .v 148, .v 149, .v 150, .v 151, .v 152, .v 153, .v 154, .v 155, .v 156, .v 157, .v 158, .v 159, .v 160, .v 161, .l 1]) (by kernel_rfl) fun ρ hρ hd => ?_
    have ea := seg0 la hρ
    simp only [D_nil, D_add, D_sub, D_mul, D_and, D_or, D_xor, D_shl, D_shr, D_andNot, D_quo, D_rem, D_add_i64, D_sub_i64, D_mul_i64, D_add_u32, D_sub_u32, D_mul_u32, D_add_u8, D_sub_u8, D_mul_u8, D_eql, D_neq, D_lss, D_leq, D_gtr, D_geq, D_not, D_conv, D_eqs, D_call, D_cond, D_need, D_idx, D_sel, D_upd, D_shv, D_beq, List.map_cons, List.map_nil, Ref.den] at hd
    obtain ⟨h32, h97, h98, h130, -⟩ := hd
    obtain ⟨s32, k96⟩ := dec_yes (A := dv 256 (seg ρ 0 32)) (by rw [ea]; exact d1.2.1) h32 (by rw [ea]; exact c1)
    rw [ea] at s32
    have k97 := not_bit h97 k96
    have g32 : seg ρ 32 16 = pX (decF (dv 256 a)) := by rw [← s32]; rfl
    have g48 : seg ρ 48 16 = pY (decF (dv 256 a)) := by rw [← s32]; rfl
    have f32 : FF (seg ρ 32 16) := by rw [g32]; exact d1.1.x
    have f48 : FF (seg ρ 48 16) := by rw [g48]; exact d1.1.y
    have hH := H255_lt
    have y0 := Int.emod_nonneg (dv 256 a) (b := H255) (by omega)
    have y1 := Int.emod_lt_of_pos (dv 256 a) hH.1
    have ix := in_ff (dg_len 256 32 (drr (dv 256 a))) (dg_dig (by decide) _ _)
    have iy := in_ff (dg_len 256 32 (dv 256 a % H255)) (dg_dig (by decide) _ _)
    have p4 := four_parts ix.1.len iy.1.len oneF_ff.len (mulF_ok ix.1 iy.1).1.len
    have ex : pX (decF (dv 256 a)) = pairs16 (dg 256 32 (drr (dv 256 a))) := p4.1
    have ey : pY (decF (dv 256 a)) = pairs16 (dg 256 32 (dv 256 a % H255)) := p4.2.1
    have vx : dv 256 (dg 256 32 (drr (dv 256 a))) = drr (dv 256 a) := by
      rw [(okF_key bA.1 bA.2).2]; exact dv_dg_of (by decide) (rmod _).1 (Int.lt_trans (rmod _).2 (by decide))
    have vy : dv 256 (dg 256 32 (dv 256 a % H255)) = dv 256 a % H255 := dv_dg_of (by decide) y0 (Int.lt_trans y1 (by decide))
    have s98 : seg ρ 98 32 = dg 256 32 (dv 65536 (seg ρ 32 16) % PP) := seg_of h98 (dg_len _ _ _)
    have s130 : seg ρ 130 32 = dg 256 32 (dv 65536 (seg ρ 48 16) % PP) := seg_of h130 (dg_len _ _ _)
    rw [g32, ex, ix.2, vx] at s98
    rw [g48, ey, iy.2, vy] at s130
    refine ⟨by simp only [G_nil, G_bin, G_cmp, G_not, G_conv, G_eqs, G_call, G_cond, G_need, G_idx, G_sel, G_upd, G_shv, G_beq, List.map_cons, List.map_nil, Ref.den]; exact ⟨trivial, k97, f32, f48, trivial⟩, ?_⟩
    show seg ρ 98 32 ++ (seg ρ 130 32 ++ [1]) = _
    rw [s98, s130]
  · rw [if_neg c1]
    refine Go.Sx.Way.of (dec := [true]) (fs := [.need 124 [[.v 0, .v 1, .v 2, .v 3, .v 4, .v 5, .v 6, .v 7, .v 8, .v 9, .v 10, .v 11, .v 12, .v 13, .v 14, .v 15, .v 16, .v 17, .v 18, .v 19, .v 20, .v 21, .v 22, .v 23, .v 24, .v 25, .v 26, .v 27, .v 28, .v 29, .v 30, .v 31]], .call 32 124 [[.v 0, .v 1, .v 2, .v 3, .v 4, .v 5, .v 6, .v 7, .v 8, .v 9, .v 10, .v 11, .v 12, .v 13, .v 14, .v 15, .v 16, .v 17, .v 18, .v 19, .v 20, .v 21, .v 22, .v 23, .v 24, .v 25, .v 26, .v 27, .v 28, .v 29, .v 30, .v 31]] 65, .not 97 (.v 96), .cond 97 true]) (refs := [.l 0, .l 0, .l 0, .l 0, .l 0, .l 0, .l 0, .l 0, .l 0, .l 0, .l 0, .l 0, .l 0, .l 0, .l 0, .l 0, .l 0, .l 0, .l 0, .l 0, .l 0, .l 0, .l 0, .l 0, .l 0, .l 0, .l 0, .l 0, .l 0, .l 0, .l 0, .l 0, .l 0, .l 0, .l 0, .l 0, .l 0, .l 0, .l 0, .l 0, .l 0, .l 0, .l 0, .l 0, .l 0, .l 0, .l 0, .l 0, .l 0, .l 0, .l 0, .l 0, .l 0, .l 0, .l 0, .l 0, .l 0, .l 0, .l 0, .l 0, .l 0, .l 0, .l 0, .l 0, .l 0]) (by kernel_rfl) fun ρ hρ hd => ?_
    have ea := seg0 la hρ
    simp only [D_nil, D_add, D_sub, D_mul, D_and, D_or, D_xor, D_shl, D_shr, D_andNot, D_quo, D_rem, D_add_i64, D_sub_i64, D_mul_i64, D_add_u32, D_sub_u32, D_mul_u32, D_add_u8, D_sub_u8, D_mul_u8, D_eql, D_neq, D_lss, D_leq, D_gtr, D_geq, D_not, D_conv, D_eqs, D_call, D_cond, D_need, D_idx, D_sel, D_upd, D_shv, D_beq, List.map_cons, List.map_nil, Ref.den] at hd
    obtain ⟨h32, h97, -⟩ := hd
    have k96 := dec_no (A := dv 256 (seg ρ 0 32)) h32 (by rw [ea]; exact c1)
    have k97 : decide (ρ 97 ≠ 0) = true := by rw [not_bit0 h97 k96]; rfl
    exact ⟨by simp only [G_nil, G_bin, G_cmp, G_not, G_conv, G_eqs, G_call, G_cond, G_need, G_idx, G_sel, G_upd, G_shv, G_beq, List.map_cons, List.map_nil, Ref.den]; exact ⟨trivial, k97, trivial⟩, rfl⟩
end Go.Proofs.Ytfobnajgnnccmaa

