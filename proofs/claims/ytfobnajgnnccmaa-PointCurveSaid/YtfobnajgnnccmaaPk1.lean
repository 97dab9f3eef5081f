/- Points of the curve: what is shown of the functions over words. No condition. -/
import Derived.Test.YtfobnajgnnccmaaPlainE
import Derived.Test.YtfobnajgnnccmaaSxS2
namespace Go.Bx
/-- Four numbers in words. -/
def qL (q : Q4) : List Int := dg MM 4 q.x ++ (dg MM 4 q.y ++ (dg MM 4 q.z ++ dg MM 4 q.t))
def Lq (l : List Int) : Q4 := ⟨dv MM (l.take 4), dv MM ((l.drop 4).take 4), dv MM ((l.drop 8).take 4), dv MM ((l.drop 12).take 4)⟩
def encQ (q : Q4) : Int := affY q + H255 * (affX q % 2)
def negQ (q : Q4) : Q4 := ⟨minZ 0 q.x, q.y, 1, timesZ (minZ 0 q.x) q.y⟩
noncomputable instance decOK_dec (A : Int) : Decidable (decOK A) := Classical.propDecidable _
def bQ : Q4 := ⟨BP.1, BP.2, 1, timesZ BP.1 BP.2⟩
def sp0 : List Int := [0, 0, 0, 0, 1, 0, 0, 0, 1, 0, 0, 0, 0, 0, 0, 0]
end Go.Bx
namespace Go.Proofs.Ytfobnajgnnccmaa
set_option linter.unusedSimpArgs false
open Go.RowKit Go.Bx Go.Sx
theorem qL_len (q : Q4) : (qL q).length = 16 := by simp [qL, dg_len]
theorem Lq_qL {q : Q4} (h : q.bd) : Lq (qL q) = q := by
  obtain ⟨h1, h2, h3, h4⟩ := h
  have d1 := dvW h1.1 h1.2
  have d2 := dvW h2.1 h2.2
  have d3 := dvW h3.1 h3.2
  have d4 := dvW h4.1 h4.2
  obtain ⟨x, y, z, t⟩ := q
  simp only at d1 d2 d3 d4
  simp only [Lq, qL]
  obtain ⟨a0, a1, a2, a3, ha⟩ := len4 (dg_len MM 4 x)
  obtain ⟨b0, b1, b2, b3, hb⟩ := len4 (dg_len MM 4 y)
  obtain ⟨c0, c1, c2, c3, hc⟩ := len4 (dg_len MM 4 z)
  obtain ⟨e0, e1, e2, e3, he⟩ := len4 (dg_len MM 4 t)
  rw [ha] at d1 ⊢
  rw [hb] at d2 ⊢
  rw [hc] at d3 ⊢
  rw [he] at d4 ⊢
  exact Q4.mk.injEq .. ▸ ⟨d1, d2, d3, d4⟩
theorem plusQ_bd {p q : Q4} (hp : p.bd) (hq : q.bd) : (plusQ p q).bd := by
  obtain ⟨p1, p2, p3, p4⟩ := hp
  obtain ⟨q1, q2, q3, q4⟩ := hq
  have ma := minZ_bd p2.1 p2.2 p1.1 p1.2
  have mb := minZ_bd q2.1 q2.2 q1.1 q1.2
  have mc := timesZ_bd ma.1 ma.2 mb.1 mb.2
  have pa' := plusZ_bd p2.1 p2.2 p1.1 p1.2
  have pb' := plusZ_bd q2.1 q2.2 q1.1 q1.2
  have pc := timesZ_bd pa'.1 pa'.2 pb'.1 pb'.2
  have t1 := timesZ_bd p4.1 p4.2 q4.1 q4.2
  have t2 := timesZ_bd (B := DD) t1.1 t1.2 (by decide) (by decide)
  have hc := plusZ_bd t2.1 t2.2 t2.1 t2.2
  have z1 := timesZ_bd p3.1 p3.2 q3.1 q3.2
  have hz := plusZ_bd z1.1 z1.2 z1.1 z1.2
  have he := minZ_bd pc.1 pc.2 mc.1 mc.2
  have hh := plusZ_bd pc.1 pc.2 mc.1 mc.2
  have hf := minZ_bd hz.1 hz.2 hc.1 hc.2
  have hg := plusZ_bd hz.1 hz.2 hc.1 hc.2
  exact ⟨timesZ_bd he.1 he.2 hf.1 hf.2, timesZ_bd hg.1 hg.2 hh.1 hh.2, timesZ_bd hf.1 hf.2 hg.1 hg.2, timesZ_bd he.1 he.2 hh.1 hh.2⟩
theorem mulQ_bd {p : Q4} (hp : p.bd) (n : Int) : ∀ k, (mulQ p n k).bd
  | 0 => by unfold mulQ Q4.bd; decide
  | k + 1 => by
    have ih := mulQ_bd hp n k
    unfold mulQ
    split
    · exact plusQ_bd (plusQ_bd ih ih) hp
    · exact plusQ_bd ih ih
theorem decX_bd (A : Int) : 0 ≤ decX A ∧ decX A < WW := by
  have h := eroot_bd (argQ (A % H255))
  have hL := PP_lt
  unfold decX
  split
  · exact minZ_bd (A := 0) (by decide) (by decide) h.1 (by omega)
  · exact ⟨h.1, by omega⟩
theorem H255_lt : 0 < H255 ∧ WW = 2 * H255 ∧ PP < H255 := by decide
theorem decQ_bd (A : Int) : (decQ A).bd := by
  have h := decX_bd A
  have hH := H255_lt
  have y0 := Int.emod_nonneg A (b := H255) (by omega)
  have y1 := Int.emod_lt_of_pos A hH.1
  exact ⟨h, ⟨y0, by show A % H255 < WW; omega⟩, (by show (0 : Int) ≤ 1 ∧ (1 : Int) < WW; decide), timesZ_bd h.1 h.2 y0 (by omega)⟩
theorem Lq_bd {l : List Int} (hl : l.length = 16) (h : ∀ z ∈ l, Go.Sx.InR .u64 z) : (Lq l).bd := by
  have go : ∀ m : List Int, m.length = 4 → (∀ z ∈ m, z ∈ l) → 0 ≤ dv MM m ∧ dv MM m < WW := fun m hm hs => bdW hm fun z hz => h z (hs z hz)
  refine ⟨go _ (by simp; omega) fun z hz => List.mem_of_mem_take hz, go _ (by simp; omega) fun z hz => List.mem_of_mem_drop (List.mem_of_mem_take hz), go _ (by simp; omega) fun z hz => List.mem_of_mem_drop (List.mem_of_mem_take hz), go _ (by simp; omega) fun z hz => List.mem_of_mem_drop (List.mem_of_mem_take hz)⟩
/-- What the functions of points make of integers. -/
noncomputable def pg (j : Nat) (xs : List (List Int)) : List Int :=
  match j, xs with
  | 79, [a] => dg MM 4 (powZ (dv MM a) (PP - 2) 256)
  | 83, [p, q] => qL (plusQ (Lq p) (Lq q))
  | 84, [p, n] => qL (mulQ (Lq p) (dv 256 n) 256)
  | 86, [p] => dg 256 32 (encQ (Lq p))
  | 87, [a] => if decOK (dv 256 a) then qL (decQ (dv 256 a)) ++ [1] else List.replicate 16 0 ++ [0]
  | 88, [a] => [b2i (decide (decOK (dv 256 a)))]
  | 89, _ => dg 256 32 1
  | 91, _ => dg 256 32 (enc BP)
  | 92, [a, b] => if decOK (dv 256 a) ∧ decOK (dv 256 b) then dg 256 32 (encQ (plusQ (decQ (dv 256 a)) (decQ (dv 256 b)))) ++ [0] else dg 256 32 0 ++ [3]
  | 93, [a] => if decOK (dv 256 a) then dg 256 32 (encQ (negQ (decQ (dv 256 a)))) ++ [0] else dg 256 32 0 ++ [3]
  | 94, [n, a] => if decOK (dv 256 a) then dg 256 32 (encQ (mulQ (decQ (dv 256 a)) (dv 256 n) 256)) ++ [0] else dg 256 32 0 ++ [3]
  | 95, [a] => if decOK (dv 256 a) then dg 256 32 (decX (dv 256 a) % PP) ++ (dg 256 32 (dv 256 a % H255) ++ [0]) else dg 256 32 0 ++ (dg 256 32 0 ++ [3])
  | 98, [s] => -1 :: ((s.drop 1).take 48 ++ qL (mulQ (Lq ((s.drop 1).take 16)) (dv 256 ((s.drop 17).take 32)) 256))
  | 100, [a, b] => dg 256 32 ((dv 256 a + dv 256 b) % 7237005577332262213973186563042994240857116359379907606001950938285454250989)
  | 101, [a, b] => dg 256 32 ((dv 256 a * dv 256 b) % 7237005577332262213973186563042994240857116359379907606001950938285454250989)
  | 102, [a] => dg 256 32 (dv 256 a % 7237005577332262213973186563042994240857116359379907606001950938285454250989)
  | 96, [n] => dg 256 32 (encQ (mulQ bQ (dv 256 n) 256))
  | 97, [s, r, n, a] => [b2i (decide (decOK (dv 256 r) ∧ decOK (dv 256 a) ∧ dg 256 32 (encQ (mulQ bQ (dv 256 s) 256)) = dg 256 32 (encQ (plusQ (decQ (dv 256 r)) (mulQ (decQ (dv 256 a)) (dv 256 n) 256)))))]
  | 110, _ => []
  | 111, _ => [1]
  | 112, _ => [1]
  | 113, _ => [1]
  | 114, _ => [1]
  | 115, _ => [1]
  | 116, _ => [1]
  | j, xs => sg j xs
def ppre (j : Nat) (xs : List (List Int)) : Prop :=
  match j, xs with
  | 98, [s] => s.getD 0 0 = 255 ∧ (s.drop 49).take 16 = sp0
  | 110, [a] => a = dg 256 32 (enc BP)
  | j, xs => sp j xs
noncomputable def pfns : Fns := ⟨pg, ppre⟩
theorem swap {c : Ctr} (h : CtrOK Try.prog sfns c) (hg : pfns.g c.j = sfns.g c.j) (hp : pfns.pre c.j = sfns.pre c.j) : CtrOK Try.prog pfns c := by
  unfold CtrOK at *; rw [hg, hp]; exact h
def PT0 : List Ctr := [cRoot, cEGood, cLess, cFrom, cNorm, cWord, cPlus, cMinus, cTimes, cPower]
theorem okPT0 : ∀ c ∈ PT0, CtrOK Try.prog pfns c := by
  intro c hc
  simp only [PT0, List.mem_cons, List.not_mem_nil, or_false] at hc
  rcases hc with rfl | rfl | rfl | rfl | rfl | rfl | rfl | rfl | rfl | rfl
  · exact swap okRoot rfl rfl
  · exact swap okEGood rfl rfl
  · exact swap okLess rfl rfl
  · exact swap okFrom rfl rfl
  · exact swap okNorm rfl rfl
  · exact swap okWord rfl rfl
  · exact swap okPlus rfl rfl
  · exact swap okMinus rfl rfl
  · exact swap okTimes rfl rfl
  · exact swap okPower rfl rfl
def cInv : Ctr := ⟨55, 79, [.arr .u64 4], [.arr .u64 4]⟩
theorem okInv : CtrOK Try.prog pfns cInv := by
  refine CtrOK.of okPT0 mixed (lf := 300) (d := 5) rfl fun w vs xs ha _ => ?_
  obtain ⟨v, a, rfl, rfl, ⟨la, -, ia⟩⟩ := open1 ha
  have bA := bdW la ia
  refine Go.Sx.Way.of (dec := []) (fs := [.need 11 [[.l 18446744073709551597, .l 18446744073709551615, .l 18446744073709551615, .l 9223372036854775807], [.l 2, .l 0, .l 0, .l 0]], .call 4 11 [[.l 18446744073709551597, .l 18446744073709551615, .l 18446744073709551615, .l 9223372036854775807], [.l 2, .l 0, .l 0, .l 0]] 5, .need 19 [[.v 0, .v 1, .v 2, .v 3], [.v 4, .v 5, .v 6, .v 7]], .call 9 19 [[.v 0, .v 1, .v 2, .v 3], [.v 4, .v 5, .v 6, .v 7]] 4]) (refs := [.v 9, .v 10, .v 11, .v 12]) (by kernel_rfl) fun ρ hρ hd => ?_
  have ea := seg0 la hρ
  simp only [D_nil, D_add, D_sub, D_mul, D_and, D_or, D_xor, D_shl, D_shr, D_andNot, D_quo, D_rem, D_add_i64, D_sub_i64, D_mul_i64, D_add_u32, D_sub_u32, D_mul_u32, D_add_u8, D_sub_u8, D_mul_u8, D_eql, D_neq, D_lss, D_leq, D_gtr, D_geq, D_not, D_conv, D_eqs, D_call, D_cond, D_need, D_idx, D_sel, D_upd, D_shv, D_beq, List.map_cons, List.map_nil, Ref.den] at hd
  obtain ⟨h4, h9, -⟩ := hd
  obtain ⟨s4, -⟩ := less_seg (a := [18446744073709551597, 18446744073709551615, 18446744073709551615, 9223372036854775807]) (b := [2, 0, 0, 0]) h4
  have s9 : seg ρ 9 4 = dg MM 4 (powZ (dv MM (seg ρ 0 4)) (dv MM (seg ρ 4 4)) 256) := seg_of h9 (dg_len _ _ _)
  rw [prime_eq, show dv MM [2, 0, 0, 0] = 2 by decide] at s4
  rw [ea, s4, dvW (x := PP - 2) (by decide) (by decide)] at s9
  refine ⟨by simp only [G_nil, G_bin, G_cmp, G_not, G_conv, G_eqs, G_call, G_cond, G_need, G_idx, G_sel, G_upd, G_shv, G_beq, List.map_cons, List.map_nil, Ref.den]; exact ⟨trivial, trivial, trivial⟩, ?_⟩
  exact s9
def PT1 : List Ctr := cInv :: PT0
theorem okPT1 : ∀ c ∈ PT1, CtrOK Try.prog pfns c := by
  intro c hc
  rcases List.mem_cons.1 hc with rfl | hc
  · exact okInv
  · exact okPT0 c hc
theorem fp {l : List Int} {A B : Int} (s : l = dg MM 4 (plusZ A B)) (ha : 0 ≤ A ∧ A < WW) (hb : 0 ≤ B ∧ B < WW) : dv MM l = plusZ A B ∧ (0 ≤ dv MM l ∧ dv MM l < WW) := by
  have b := plusZ_bd ha.1 ha.2 hb.1 hb.2
  have e : dv MM l = plusZ A B := by rw [s, dvW b.1 b.2]
  exact ⟨e, by rw [e]; exact b⟩
theorem fm {l : List Int} {A B : Int} (s : l = dg MM 4 (minZ A B)) (ha : 0 ≤ A ∧ A < WW) (hb : 0 ≤ B ∧ B < WW) : dv MM l = minZ A B ∧ (0 ≤ dv MM l ∧ dv MM l < WW) := by
  have b := minZ_bd ha.1 ha.2 hb.1 hb.2
  have e : dv MM l = minZ A B := by rw [s, dvW b.1 b.2]
  exact ⟨e, by rw [e]; exact b⟩
theorem ft {l : List Int} {A B : Int} (s : l = dg MM 4 (timesZ A B)) (ha : 0 ≤ A ∧ A < WW) (hb : 0 ≤ B ∧ B < WW) : dv MM l = timesZ A B ∧ (0 ≤ dv MM l ∧ dv MM l < WW) := by
  have b := timesZ_bd ha.1 ha.2 hb.1 hb.2
  have e : dv MM l = timesZ A B := by rw [s, dvW b.1 b.2]
  exact ⟨e, by rw [e]; exact b⟩
theorem bD : 0 ≤ dv MM [8496970652267935907, 31536524315187371, 10144147576115030168, 5909686906226998899] ∧ dv MM [8496970652267935907, 31536524315187371, 10144147576115030168, 5909686906226998899] < WW := by decide
theorem eD : dv MM [8496970652267935907, 31536524315187371, 10144147576115030168, 5909686906226998899] = DD := by decide
theorem b1 : 0 ≤ dv MM [1, 0, 0, 0] ∧ dv MM [1, 0, 0, 0] < WW := by decide
theorem bZ : 0 ≤ dv MM [0, 0, 0, 0] ∧ dv MM [0, 0, 0, 0] < WW := by decide
theorem e_one : dv MM [1, 0, 0, 0] = 1 := by decide
theorem e_nil : dv MM [0, 0, 0, 0] = 0 := by decide
def cSPlus : Ctr := ⟨41, 83, [.arr .u64 16, .arr .u64 16], [.arr .u64 16]⟩
theorem okSPlus : CtrOK Try.prog pfns cSPlus := by
  refine CtrOK.of okPT1 mixed (lf := 300) (d := 5) rfl fun w vs xs ha _ => ?_
  obtain ⟨v, u, a, b, rfl, rfl, ⟨la, -, ia⟩, ⟨lb, -, ib⟩⟩ := open2 ha
  refine Go.Sx.Way.of (dec := []) (fs := [.need 16 [[.v 4, .v 5, .v 6, .v 7], [.v 0, .v 1, .v 2, .v 3]], .call 32 16 [[.v 4, .v 5, .v 6, .v 7], [.v 0, .v 1, .v 2, .v 3]] 4, .need 16 [[.v 20, .v 21, .v 22, .v 23], [.v 16, .v 17, .v 18, .v 19]], .call 36 16 [[.v 20, .v 21, .v 22, .v 23], [.v 16, .v 17, .v 18, .v 19]] 4, .need 18 [[.v 32, .v 33, .v 34, .v 35], [.v 36, .v 37, .v 38, .v 39]], .call 40 18 [[.v 32, .v 33, .v 34, .v 35], [.v 36, .v 37, .v 38, .v 39]] 4, .need 15 [[.v 4, .v 5, .v 6, .v 7], [.v 0, .v 1, .v 2, .v 3]], .call 44 15 [[.v 4, .v 5, .v 6, .v 7], [.v 0, .v 1, .v 2, .v 3]] 4, .need 15 [[.v 20, .v 21, .v 22, .v 23], [.v 16, .v 17, .v 18, .v 19]], .call 48 15 [[.v 20, .v 21, .v 22, .v 23], [.v 16, .v 17, .v 18, .v 19]] 4, .need 18 [[.v 44, .v 45, .v 46, .v 47], [.v 48, .v 49, .v 50, .v 51]], .call 52 18 [[.v 44, .v 45, .v 46, .v 47], [.v 48, .v 49, .v 50, .v 51]] 4, .need 18 [[.v 12, .v 13, .v 14, .v 15], [.v 28, .v 29, .v 30, .v 31]], .call 56 18 [[.v 12, .v 13, .v 14, .v 15], [.v 28, .v 29, .v 30, .v 31]] 4, .need 18 [[.v 56, .v 57, .v 58, .v 59], [.l 8496970652267935907, .l 31536524315187371, .l 10144147576115030168, .l 5909686906226998899]], .call 60 18 [[.v 56, .v 57, .v 58, .v 59], [.l 8496970652267935907, .l 31536524315187371, .l 10144147576115030168, .l 5909686906226998899]] 4, .need 15 [[.v 60, .v 61, .v 62, .v 63], [.v 60, .v 61, .v 62, .v 63]], .call 64 15 [[.v 60, .v 61, .v 62, .v 63], [.v 60, .v 61, .v 62, .v 63]] 4, .need 18 [[.v 8, .v 9, .v 10, .v 11], [.v 24, .v 25, .v 26, .v 27]], .call 68 18 [[.v 8, .v 9, .v 10, .v 11], [.v 24, .v 25, .v 26, .v 27]] 4, .need 15 [[.v 68, .v 69, .v 70, .v 71], [.v 68, .v 69, .v 70, .v 71]], .call 72 15 [[.v 68, .v 69, .v 70, .v 71], [.v 68, .v 69, .v 70, .v 71]] 4, .need 16 [[.v 52, .v 53, .v 54, .v 55], [.v 40, .v 41, .v 42, .v 43]], .call 76 16 [[.v 52, .v 53, .v 54, .v 55], [.v 40, .v 41, .v 42, .v 43]] 4, .need 16 [[.v 72, .v 73, .v 74, .v 75], [.v 64, .v 65, .v 66, .v 67]], .call 80 16 [[.v 72, .v 73, .v 74, .v 75], [.v 64, .v 65, .v 66, .v 67]] 4, .need 15 [[.v 72, .v 73, .v 74, .v 75], [.v 64, .v 65, .v 66, .v 67]], .call 84 15 [[.v 72, .v 73, .v 74, .v 75], [.v 64, .v 65, .v 66, .v 67]] 4, .need 15 [[.v 52, .v 53, .v 54, .v 55], [.v 40, .v 41, .v 42, .v 43]], .call 88 15 [[.v 52, .v 53, .v 54, .v 55], [.v 40, .v 41, .v 42, .v 43]] 4, .need 18 [[.v 76, .v 77, .v 78, .v 79], [.v 80, .v 81, .v 82, .v 83]], .call 92 18 [[.v 76, .v 77, .v 78, .v 79], [.v 80, .v 81, .v 82, .v 83]] 4, .need 18 [[.v 84, .v 85, .v 86, .v 87], [.v 88, .v 89, .v 90, .v 91]], .call 96 18 [[.v 84, .v 85, .v 86, .v 87], [.v 88, .v 89, .v 90, .v 91]] 4, .need 18 [[.v 80, .v 81, .v 82, .v 83], [.v 84, .v 85, .v 86, .v 87]], .call 100 18 [[.v 80, .v 81, .v 82, .v 83], [.v 84, .v 85, .v 86, .v 87]] 4, .need 18 [[.v 76, .v 77, .v 78, .v 79], [.v 88, .v 89, .v 90, .v 91]], .call 104 18 [[.v 76, .v 77, .v 78, .v 79], [.v 88, .v 89, .v 90, .v 91]] 4]) (refs := [.v 92, .v 93, .v 94, .v 95, .v 96, .v 97, .v 98, .v 99, .v 100, .v 101, .v 102, .v 103, .v 104, .v 105, .v 106, .v 107]) (by kernel_rfl) fun ρ hρ hd => ?_
  obtain ⟨ea, eb⟩ := seg2 la lb hρ
  have hA := Lq_bd la ia
  have hB := Lq_bd lb ib
  rw [← ea] at hA
  rw [← eb] at hB
  have b0 : 0 ≤ dv MM (seg ρ 0 4) ∧ dv MM (seg ρ 0 4) < WW := hA.1
  have b4 : 0 ≤ dv MM (seg ρ 4 4) ∧ dv MM (seg ρ 4 4) < WW := hA.2.1
  have b8 : 0 ≤ dv MM (seg ρ 8 4) ∧ dv MM (seg ρ 8 4) < WW := hA.2.2.1
  have b12 : 0 ≤ dv MM (seg ρ 12 4) ∧ dv MM (seg ρ 12 4) < WW := hA.2.2.2
  have b16 : 0 ≤ dv MM (seg ρ 16 4) ∧ dv MM (seg ρ 16 4) < WW := hB.1
  have b20 : 0 ≤ dv MM (seg ρ 20 4) ∧ dv MM (seg ρ 20 4) < WW := hB.2.1
  have b24 : 0 ≤ dv MM (seg ρ 24 4) ∧ dv MM (seg ρ 24 4) < WW := hB.2.2.1
  have b28 : 0 ≤ dv MM (seg ρ 28 4) ∧ dv MM (seg ρ 28 4) < WW := hB.2.2.2
  simp only [D_nil, D_add, D_sub, D_mul, D_and, D_or, D_xor, D_shl, D_shr, D_andNot, D_quo, D_rem, D_add_i64, D_sub_i64, D_mul_i64, D_add_u32, D_sub_u32, D_mul_u32, D_add_u8, D_sub_u8, D_mul_u8, D_eql, D_neq, D_lss, D_leq, D_gtr, D_geq, D_not, D_conv, D_eqs, D_call, D_cond, D_need, D_idx, D_sel, D_upd, D_shv, D_beq, List.map_cons, List.map_nil, Ref.den] at hd
  obtain ⟨h32, h36, h40, h44, h48, h52, h56, h60, h64, h68, h72, h76, h80, h84, h88, h92, h96, h100, h104, -⟩ := hd
  have s32 : seg ρ 32 4 = dg MM 4 (minZ (dv MM (seg ρ 4 4)) (dv MM (seg ρ 0 4))) := seg_of h32 (dg_len _ _ _)
  obtain ⟨e32, b32⟩ := fm s32 b4 b0
  have s36 : seg ρ 36 4 = dg MM 4 (minZ (dv MM (seg ρ 20 4)) (dv MM (seg ρ 16 4))) := seg_of h36 (dg_len _ _ _)
  obtain ⟨e36, b36⟩ := fm s36 b20 b16
  have s40 : seg ρ 40 4 = dg MM 4 (timesZ (dv MM (seg ρ 32 4)) (dv MM (seg ρ 36 4))) := seg_of h40 (dg_len _ _ _)
  obtain ⟨e40, b40⟩ := ft s40 b32 b36
  have s44 : seg ρ 44 4 = dg MM 4 (plusZ (dv MM (seg ρ 4 4)) (dv MM (seg ρ 0 4))) := seg_of h44 (dg_len _ _ _)
  obtain ⟨e44, b44⟩ := fp s44 b4 b0
  have s48 : seg ρ 48 4 = dg MM 4 (plusZ (dv MM (seg ρ 20 4)) (dv MM (seg ρ 16 4))) := seg_of h48 (dg_len _ _ _)
  obtain ⟨e48, b48⟩ := fp s48 b20 b16
  have s52 : seg ρ 52 4 = dg MM 4 (timesZ (dv MM (seg ρ 44 4)) (dv MM (seg ρ 48 4))) := seg_of h52 (dg_len _ _ _)
  obtain ⟨e52, b52⟩ := ft s52 b44 b48
  have s56 : seg ρ 56 4 = dg MM 4 (timesZ (dv MM (seg ρ 12 4)) (dv MM (seg ρ 28 4))) := seg_of h56 (dg_len _ _ _)
  obtain ⟨e56, b56⟩ := ft s56 b12 b28
  have s60 : seg ρ 60 4 = dg MM 4 (timesZ (dv MM (seg ρ 56 4)) (dv MM [8496970652267935907, 31536524315187371, 10144147576115030168, 5909686906226998899])) := seg_of h60 (dg_len _ _ _)
  obtain ⟨e60, b60⟩ := ft s60 b56 bD
  have s64 : seg ρ 64 4 = dg MM 4 (plusZ (dv MM (seg ρ 60 4)) (dv MM (seg ρ 60 4))) := seg_of h64 (dg_len _ _ _)
  obtain ⟨e64, b64⟩ := fp s64 b60 b60
  have s68 : seg ρ 68 4 = dg MM 4 (timesZ (dv MM (seg ρ 8 4)) (dv MM (seg ρ 24 4))) := seg_of h68 (dg_len _ _ _)
  obtain ⟨e68, b68⟩ := ft s68 b8 b24
  have s72 : seg ρ 72 4 = dg MM 4 (plusZ (dv MM (seg ρ 68 4)) (dv MM (seg ρ 68 4))) := seg_of h72 (dg_len _ _ _)
  obtain ⟨e72, b72⟩ := fp s72 b68 b68
  have s76 : seg ρ 76 4 = dg MM 4 (minZ (dv MM (seg ρ 52 4)) (dv MM (seg ρ 40 4))) := seg_of h76 (dg_len _ _ _)
  obtain ⟨e76, b76⟩ := fm s76 b52 b40
  have s80 : seg ρ 80 4 = dg MM 4 (minZ (dv MM (seg ρ 72 4)) (dv MM (seg ρ 64 4))) := seg_of h80 (dg_len _ _ _)
  obtain ⟨e80, b80⟩ := fm s80 b72 b64
  have s84 : seg ρ 84 4 = dg MM 4 (plusZ (dv MM (seg ρ 72 4)) (dv MM (seg ρ 64 4))) := seg_of h84 (dg_len _ _ _)
  obtain ⟨e84, b84⟩ := fp s84 b72 b64
  have s88 : seg ρ 88 4 = dg MM 4 (plusZ (dv MM (seg ρ 52 4)) (dv MM (seg ρ 40 4))) := seg_of h88 (dg_len _ _ _)
  obtain ⟨e88, b88⟩ := fp s88 b52 b40
  have s92 : seg ρ 92 4 = dg MM 4 (timesZ (dv MM (seg ρ 76 4)) (dv MM (seg ρ 80 4))) := seg_of h92 (dg_len _ _ _)
  obtain ⟨e92, b92⟩ := ft s92 b76 b80
  have s96 : seg ρ 96 4 = dg MM 4 (timesZ (dv MM (seg ρ 84 4)) (dv MM (seg ρ 88 4))) := seg_of h96 (dg_len _ _ _)
  obtain ⟨e96, b96⟩ := ft s96 b84 b88
  have s100 : seg ρ 100 4 = dg MM 4 (timesZ (dv MM (seg ρ 80 4)) (dv MM (seg ρ 84 4))) := seg_of h100 (dg_len _ _ _)
  obtain ⟨e100, b100⟩ := ft s100 b80 b84
  have s104 : seg ρ 104 4 = dg MM 4 (timesZ (dv MM (seg ρ 76 4)) (dv MM (seg ρ 88 4))) := seg_of h104 (dg_len _ _ _)
  obtain ⟨e104, b104⟩ := ft s104 b76 b88
  refine ⟨by simp only [G_nil, G_bin, G_cmp, G_not, G_conv, G_eqs, G_call, G_cond, G_need, G_idx, G_sel, G_upd, G_shv, G_beq, List.map_cons, List.map_nil, Ref.den]; exact ⟨trivial, trivial, trivial, trivial, trivial, trivial, trivial, trivial, trivial, trivial, trivial, trivial, trivial, trivial, trivial, trivial, trivial, trivial, trivial, trivial⟩, ?_⟩
  have e1 : Lq a = ⟨dv MM (seg ρ 0 4), dv MM (seg ρ 4 4), dv MM (seg ρ 8 4), dv MM (seg ρ 12 4)⟩ := by rw [← ea]; rfl
  have e2 : Lq b = ⟨dv MM (seg ρ 16 4), dv MM (seg ρ 20 4), dv MM (seg ρ 24 4), dv MM (seg ρ 28 4)⟩ := by rw [← eb]; rfl
  show seg ρ 92 4 ++ (seg ρ 96 4 ++ (seg ρ 100 4 ++ seg ρ 104 4)) = qL (plusQ (Lq a) (Lq b))
  rw [s92, s96, s100, s104, e88, e84, e80, e76, e72, e68, e64, e60, e56, e52, e48, e44, e40, e36, e32, eD, e1, e2]
  rfl
def PT2 : List Ctr := cSPlus :: PT1
theorem okPT2 : ∀ c ∈ PT2, CtrOK Try.prog pfns c := by
  intro c hc
  rcases List.mem_cons.1 hc with rfl | hc
  · exact okSPlus
  · exact okPT1 c hc
end Go.Proofs.Ytfobnajgnnccmaa
