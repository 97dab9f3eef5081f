/- Points of the curve: what is shown of the functions. No condition. -/
import Derived.Test.YtfobnajgnnccmaaBase
import Derived.Lib.Bytealg
import Derived.Test.YtfobnajgnnccmaaBase3
import Derived.Test.YtfobnajgnnccmaaInfo
import Derived.Deep.DeepMust
import Derived.RegionTactic
import Derived.BigRegion
import Derived.Lib.Strings
import Derived.Lib.Walk
import Derived.Test.YtfobnajgnnccmaaPlainE
import Derived.Test.YtfobnajgnnccmaaSxS2
import Derived.Test.YtfobnajgnnccmaaSxV
import Derived.Test.YtfobnajgnnccmaaSxR
namespace Go.Bx

/-- The k lowest bytes of a number, the highest first. -/
def bigB (v : Nat) : Nat → List UInt8
  | 0 => []
  | k + 1 => UInt8.ofNat (v / 2 ^ (8 * k) % 256) :: bigB v k
def litB (v k : Nat) : List UInt8 := (bigB v k).reverse
theorem bigB_len (v : Nat) : ∀ k, (bigB v k).length = k
  | 0 => rfl
  | k + 1 => by rw [bigB, List.length_cons, bigB_len v k]
theorem litB_len (v k : Nat) : (litB v k).length = k := by rw [litB, List.length_reverse, bigB_len]
theorem litB_succ (v k : Nat) : litB v (k + 1) = litB v k ++ [UInt8.ofNat (v / 2 ^ (8 * k) % 256)] := by rw [litB, bigB, List.reverse_cons]; rfl
theorem litB_rev (v k : Nat) : (litB v k).reverse = bigB v k := by rw [litB, List.reverse_reverse]
/-- The number of bytes, the highest first. -/
def fromB (l : List UInt8) : Nat := l.foldl (fun a b => a * 256 + b.toNat) 0
theorem fromB_snoc (l : List UInt8) (b : UInt8) : fromB (l ++ [b]) = fromB l * 256 + b.toNat := by simp [fromB]
theorem fromB_take (l : List UInt8) (k : Nat) (h : k < l.length) : fromB (l.take (k + 1)) = fromB (l.take k) * 256 + l[k].toNat := by
  rw [List.take_add_one, List.getElem?_eq_getElem h, Option.toList_some, fromB_snoc]
theorem fromB_lt : ∀ (n : Nat) (l : List UInt8), l.length = n → fromB l < 256 ^ n := by
  intro n
  induction n with
  | zero => intro l h; obtain rfl := List.eq_nil_of_length_eq_zero h; decide
  | succ n ih =>
    intro l h
    have e := fromB_take l n (by omega)
    rw [List.take_of_length_le (by omega)] at e
    have h1 := ih (l.take n) (by rw [List.length_take]; omega)
    have h2 := l[n].toNat_lt
    rw [e, Nat.pow_succ]
    omega
theorem fromB_foldl (l : List UInt8) : ∀ a, l.foldl (fun a b => a * 256 + b.toNat) a = a * 256 ^ l.length + fromB l := by
  induction l with
  | nil => intro a; simp [fromB]
  | cons b l ih =>
    intro a
    have e : fromB (b :: l) = (0 * 256 + b.toNat) * 256 ^ l.length + fromB l := by
      show l.foldl _ (0 * 256 + b.toNat) = _
      rw [ih]
    rw [List.foldl_cons, ih, e, List.length_cons, Nat.pow_succ, Nat.add_mul, Nat.zero_mul, Nat.zero_add, Nat.mul_assoc, Nat.mul_comm 256, Nat.add_assoc]
theorem fromB_cons (b : UInt8) (l : List UInt8) : fromB (b :: l) = b.toNat * 256 ^ l.length + fromB l := by
  show l.foldl _ (0 * 256 + b.toNat) = _
  rw [fromB_foldl, Nat.zero_mul, Nat.zero_add]
theorem ofNat256 (n : Nat) : (UInt8.ofNat (n % 256)).toNat = n % 256 := by rw [UInt8.toNat_ofNat']; omega
theorem fromB_bigB (v : Nat) : ∀ k, fromB (bigB v k) = v % 256 ^ k
  | 0 => by rw [Nat.pow_zero, Nat.mod_one]; rfl
  | k + 1 => by
    rw [bigB, fromB_cons, bigB_len, fromB_bigB v k, ofNat256, show 2 ^ (8 * k) = 256 ^ k from by rw [Nat.pow_mul], Nat.pow_succ, Nat.mod_mul, Nat.mul_comm (256 ^ k) (v / 256 ^ k % 256), Nat.add_comm]
theorem fromB_bigB8 (v : Nat) (h : v < 18446744073709551616) : fromB (bigB v 8) = v := by
  rw [fromB_bigB]; exact Nat.mod_eq_of_lt h

/-- Bytes put on one another, as long as the shorter one. -/
def xorB (a b : List UInt8) : List UInt8 := List.zipWith (· ^^^ ·) a b
theorem xorB_len (a b : List UInt8) : (xorB a b).length = min a.length b.length := by simp [xorB]
theorem xorB_get (a b : List UInt8) (k : Nat) (h1 : k < a.length) (h2 : k < b.length) : (xorB a b)[k]? = some (a[k] ^^^ b[k]) :=
  List.getElem?_eq_some_iff.2 ⟨by rw [xorB_len]; omega, by simp [xorB]⟩
theorem xorB_twice (a b : List UInt8) (h : a.length ≤ b.length) : xorB (xorB a b) b = a := by
  apply List.ext_getElem
  · rw [xorB_len, xorB_len]; omega
  · intro i h1 h2
    simp only [xorB, List.getElem_zipWith]
    rw [UInt8.xor_assoc, UInt8.xor_self, UInt8.xor_zero]

/-- The digits. -/
def digB : List UInt8 := [48, 49, 50, 51, 52, 53, 54, 55, 56, 57, 97, 98, 99, 100, 101, 102]
def hexB : List UInt8 → List UInt8
  | [] => []
  | b :: l => digB.getD (b.toNat / 16) 0 :: digB.getD (b.toNat % 16) 0 :: hexB l
theorem hexB_len (l : List UInt8) : (hexB l).length = 2 * l.length := by
  induction l with
  | nil => rfl
  | cons b l ih => simp only [hexB, List.length_cons, ih]; omega
theorem hexB_snoc (l : List UInt8) (b : UInt8) : hexB (l ++ [b]) = hexB l ++ [digB.getD (b.toNat / 16) 0, digB.getD (b.toNat % 16) 0] := by
  induction l with
  | nil => rfl
  | cons c l ih => simp only [List.cons_append, hexB, ih]
theorem hexB_take (l : List UInt8) (k : Nat) (h : k < l.length) : hexB (l.take (k + 1)) = hexB (l.take k) ++ [digB.getD (l[k].toNat / 16) 0, digB.getD (l[k].toNat % 16) 0] := by
  rw [List.take_add_one, List.getElem?_eq_getElem h, Option.toList_some, hexB_snoc]
/-- A digit's place; -1: it is no digit. -/
def digI (c : UInt8) : Int := Lib.indexByte digB c
/-- Digits read; none: a byte that is no digit, or an odd number of them. -/
def unhexB : List UInt8 → Option (List UInt8)
  | [] => some []
  | [_] => none
  | a :: b :: l => if digI a < 0 ∨ digI b < 0 then none else (unhexB l).map (UInt8.ofNat (16 * (digI a).toNat + (digI b).toNat) :: ·)
theorem digI_range (c : UInt8) : -1 ≤ digI c ∧ digI c ≤ 15 := by
  have : ∀ n : Fin 256, -1 ≤ digI (UInt8.ofNat n.val) ∧ digI (UInt8.ofNat n.val) ≤ 15 := by decide +kernel
  have := this ⟨c.toNat, c.toNat_lt⟩
  simpa using this
theorem digI_get (n : Nat) (h : n < 16) : digI (digB.getD n 0) = n := by
  have : ∀ n : Fin 16, digI (digB.getD n.val 0) = n.val := by decide +kernel
  exact this ⟨n, h⟩
theorem unhex_hex (l : List UInt8) : unhexB (hexB l) = some l := by
  induction l with
  | nil => rfl
  | cons b l ih =>
    have hb := b.toNat_lt
    simp only [hexB, unhexB, ih, digI_get _ (show b.toNat / 16 < 16 by omega), digI_get _ (show b.toNat % 16 < 16 by omega), Option.map_some]
    rw [if_neg (by omega), Int.toNat_natCast, Int.toNat_natCast, show 16 * (b.toNat / 16) + b.toNat % 16 = b.toNat from by omega, UInt8.ofNat_toNat]
theorem unhex_odd : ∀ (k : Nat) (l : List UInt8), l.length = 2 * k + 1 → unhexB l = none
  | 0, [_], _ => rfl
  | k + 1, a :: b :: l, h => by
    rw [unhexB, unhex_odd k l (by simp at h; omega)]
    split <;> rfl
theorem unhex_step (l : List UInt8) (k : Nat) (h : k + 1 < l.length) :
    unhexB (l.drop k) = if digI l[k] < 0 ∨ digI l[k + 1] < 0 then none else (unhexB (l.drop (k + 2))).map (UInt8.ofNat (16 * (digI l[k]).toNat + (digI l[k + 1]).toNat) :: ·) := by
  rw [List.drop_eq_getElem_cons (show k < l.length by omega), List.drop_eq_getElem_cons h, unhexB]
end Go.Bx

namespace Go.Bx
open Go Go.RowKit
theorem made_bytes (m : Nat) : madeCells (Value.int .u8 0).cells (m * 1) = (bvs (List.replicate m 0)).toArray := by
  apply Array.ext
  · simp [size_madeCells, bvs]
  · intro i h1 h2
    simp [madeCells, bvs, Value.cells, bv, Nat.mod_one]
/-- Where a slice that holds something lies. -/
theorem Sl.addr {w : World} {a : Option Addr} {c n : Nat} {xs : List Value} {sz : Nat} (h : Sl w sz (.slice a n c) n xs) (hn : 0 < n) :
    ∃ g o, a = some ⟨g, o, none⟩ ∧ g < w.heap.size ∧ ∀ j u, xs[j]? = some u → w.cell? ⟨g, o + j, none⟩ = some u := by
  obtain ⟨hl, a, cap, he, _, _, _, h0 | ⟨g, o, rfl, hg, hc⟩⟩ := h
  · omega
  · cases he; exact ⟨g, o, rfl, hg, hc⟩
theorem and15 (c : Nat) (h2 : c < 256) : bits .and .u8 (c : Int) 15 = (c : Int) % 16 := by
  rw [show (15 : Int) = ((15 : Nat) : Int) from rfl, u8_and_nat _ _ (by omega) (by omega)]
  have : ∀ a : Fin 256, a.val &&& 15 = a.val % 16 := by decide +kernel
  have := this ⟨c, h2⟩
  simp only at this
  rw [this]; omega
end Go.Bx
namespace Go.Proofs.Ytfobnajgnnccmaa
open Go.RowKit Go.Bx

theorem dig_at (m : Nat) (h : m < (⟨#[48, 49, 50, 51, 52, 53, 54, 55, 56, 57, 97, 98, 99, 100, 101, 102]⟩ : ByteArray).size) : Value.int .u8 (((⟨#[48, 49, 50, 51, 52, 53, 54, 55, 56, 57, 97, 98, 99, 100, 101, 102]⟩ : ByteArray)[m]).toNat : Int) = bv (digB.getD m 0) := by
  have hm : m < 16 := h
  have : ∀ n : Fin 16, ((⟨#[48, 49, 50, 51, 52, 53, 54, 55, 56, 57, 97, 98, 99, 100, 101, 102]⟩ : ByteArray)[n.val]'(n.isLt)) = digB.getD n.val 0 := by decide +kernel
  rw [bv, ← this ⟨m, hm⟩]
structure HexRel (w : World) (l : List UInt8) (out i : Value) (wr : World) : Prop where
  ex : ∃ (k : Nat), i = .int .i64 k ∧ k ≤ l.length ∧ Own wr w.heap.size 1 out (hexB (l.take k)).length (bvs (hexB (l.take k))) ∧ Below w.heap.size w wr
set_option maxHeartbeats 1000000 in
theorem rhex_any (v : Value) (l : List UInt8) (w : World) (h : Sl w 1 v l.length (bvs l)) (hn : Fits (2 * l.length)) :
    Calls Try.prog 37 #[v] w fun e w' => e = .returned (.string ⟨(hexB l).toArray⟩) ∧ Below w.heap.size w w' := by
  obtain ⟨i0, hi, hz0, hz1, hz2⟩ := info_parts infoB
  obtain ⟨ua, uc, rfl⟩ := h.form
  have HS := Held.mk h
  have hnb := hn.ok
  have hmk : ∀ W : World, (Instr.makeSlice 47 (.int .i64 0) (.int .i64 (2 * (l.length : Int)))).run Try.prog W = .ok (.slice (some ⟨W.heap.size, 0, none⟩) 0 (2 * l.length)) (W.alloc (.cells (bvs (List.replicate (2 * l.length) 0)).toArray 5)) := by
    intro W
    have hr := run_make (P := Try.prog) W 47 5 i0 (.int .u8 0) Try.underlying47 hi hz0 .i64 .i64 0 ((2 * l.length : Nat) : Int) (by omega) (by omega) (by rw [hz2]; omega) (by omega)
    rw [Int.toNat_natCast, hz1, made_bytes] at hr
    simpa using hr
  clear h
  go_enter Try.func37, Try.ntmps37
  go_wp2
  go_loopw [3, 4] (fun out i wr => HexRel w l out i wr) (fun _ i _ => l.length - (intOf i).toNat)
  case atStart =>
    refine ⟨⟨0, rfl, by omega, ?_, (Below.refl _ _).alloc (Nat.le_refl _) _⟩⟩
    refine ⟨rfl, .inr ⟨w.heap.size, 0, 2 * l.length, rfl, Nat.le_refl _, by simp, Nat.zero_le _, hn.max, fun j u hj => by simp [hexB, bvs] at hj, fun j hj => ?_, fun j hj => World.frozen?_alloc_at _ _ _ _ rfl⟩⟩
    rw [World.cell?_alloc_at _ _ _ _ rfl, Array.getElem?_eq_getElem (by rw [List.size_toArray, bvs_length, List.length_replicate]; omega)]; rfl
  case round =>
    obtain ⟨k, rfl, hk, ho, hbel⟩ := hrel.ex
    have HO := Held.mk ho
    clear ho hrel hmk
    by_cases hlt : k < l.length
    · obtain ⟨g, o, rfl, hg, hc⟩ := (HS.out.grow hbel).addr (by omega)
      obtain ⟨x, hx⟩ : ∃ x : Int, x = l[k].toNat := ⟨_, rfl⟩
      have c1 : wr.cell? ⟨g, o + k, none⟩ = some (.int .u8 x) := by rw [hx]; exact hc k _ (bvs_get l k hlt)
      have hx0 : 0 ≤ x := by omega
      have hx1 : x ≤ 255 := by have := l[k].toNat_lt; omega
      have HX := Held.mk hx
      have e1 : bits .and .u8 x 15 = x % 16 := by rw [hx]; exact and15 _ l[k].toNat_lt
      have xa : 0 ≤ x / 16 := by omega
      have xb : x / 16 < 16 := by omega
      have xc : 0 ≤ x % 16 := by omega
      have xd : x % 16 < 16 := by omega
      have hsrc : ∀ d1 d2 : Int, Src Try.prog 1 47 (.slice (some ⟨wr.heap.size, 0, none⟩) 2 2) 2 [.int .u8 d1, .int .u8 d2] (wr.drew.alloc (.cells #[.int .u8 d1, .int .u8 d2] 5)) := fun d1 d2 =>
        Src.ofSlice _ Try.underlying47 ⟨wr.heap.size, 0, none⟩ 2 2 _ rfl (fun j u hj => by rw [Addr.add_lit]; exact ((show (wr.drew.alloc (.cells #[Value.int .u8 d1, .int .u8 d2] 5)).cell? ⟨wr.heap.size, 0 + j, none⟩ = (#[Value.int .u8 d1, .int .u8 d2] : Array Value)[0 + j]? from World.cell?_alloc_at _ _ _ _ rfl).trans (by simpa using hj))) (by intro u hu; simp at hu; rcases hu with rfl | rfl <;> rfl)
      have hown : ∀ o : Obj, Own (wr.drew.alloc o) w.heap.size 1 u3 (hexB (l.take k)).length (bvs (hexB (l.take k))) := fun o => HO.out.grow ((Below.refl _ _).drew.alloc (Nat.le_refl _) o)
      have hsz : ∀ o : Obj, w.heap.size ≤ (wr.drew.alloc o).heap.size := fun o => Nat.le_trans hbel.size (by simp)
      have hfit : Fits ((hexB (l.take k)).length + 2) := hn.le (by rw [hexB_len, List.length_take]; omega)
      have hmax := hfit.max
      have hmul := hfit.mul
      clear hx hc
      go_wp2
      go_region_law (refine step_append rfl _ _ 47 47 rfl (hown _) rfl 5 i0 (.int .u8 0) 1 Try.underlying47 hi hz0 hz1 hz2 rfl Nat.one_pos rfl (hsrc _ _) hmax hmul (hsz _) ?_; intro v' w2 hown2 hfr hob)
      all_goals
        go_wp2
        go_roundw
        case rel =>
          refine ⟨⟨k + 1, by push_cast; rfl, by omega, ?_, ?_⟩⟩
          · rw [hexB_take l k hlt, bvs_append, List.length_append]
            have hq := HX.out
            simp only [show (x / 16).toNat = l[k].toNat / 16 by omega, show (x % 16).toNat = l[k].toNat % 16 by omega, dig_at] at hown2
            exact hown2
          · exact (hbel.drew.alloc hbel.size _).trans (hfr.own (hsz _))
        case measure => simp [intOf]; omega
    · obtain rfl : k = l.length := by omega
      rw [List.take_length] at HO
      go_wp2_with (refine wpList_bytes_str rfl _ 47 9 rfl rfl HO.out.sl 5 Try.underlying9 Try.underlying47 Try.underlying5 ?_)
      go_ret
      exact ⟨rfl, hbel⟩
end Go.Proofs.Ytfobnajgnnccmaa

namespace Go.Bx
/-- Four numbers in words. -/
def qL (q : Q4) : List Int := dg MM 4 q.x ++ (dg MM 4 q.y ++ (dg MM 4 q.z ++ dg MM 4 q.t))
def Lq (l : List Int) : Q4 := ⟨dv MM (l.take 4), dv MM ((l.drop 4).take 4), dv MM ((l.drop 8).take 4), dv MM ((l.drop 12).take 4)⟩
def encQ (q : Q4) : Int := affY q + H255 * (affX q % 2)
def negQ (q : Q4) : Q4 := ⟨minZ 0 q.x, q.y, 1, timesZ (minZ 0 q.x) q.y⟩
noncomputable instance decOK_dec (A : Int) : Decidable (decOK A) := Classical.propDecidable _
def bQ : Q4 := ⟨BP.1, BP.2, 1, timesZ BP.1 BP.2⟩
def sp0 : List Int := [0, 0, 0, 0, 1, 0, 0, 0, 1, 0, 0, 0, 0, 0, 0, 0]
end Go.Bx
namespace Go.Proofs.Ytfobnajgnnccmaa
set_option linter.unusedSimpArgs false
open Go.RowKit Go.Bx Go.Sx
theorem qL_len (q : Q4) : (qL q).length = 16 := by simp [qL, dg_len]
theorem Lq_qL {q : Q4} (h : q.bd) : Lq (qL q) = q := by
  obtain ⟨h1, h2, h3, h4⟩ := h
  have d1 := dvW h1.1 h1.2
  have d2 := dvW h2.1 h2.2
  have d3 := dvW h3.1 h3.2
  have d4 := dvW h4.1 h4.2
  obtain ⟨x, y, z, t⟩ := q
  simp only at d1 d2 d3 d4
  simp only [Lq, qL]
  obtain ⟨a0, a1, a2, a3, ha⟩ := len4 (dg_len MM 4 x)
  obtain ⟨b0, b1, b2, b3, hb⟩ := len4 (dg_len MM 4 y)
  obtain ⟨c0, c1, c2, c3, hc⟩ := len4 (dg_len MM 4 z)
  obtain ⟨e0, e1, e2, e3, he⟩ := len4 (dg_len MM 4 t)
  rw [ha] at d1 ⊢
  rw [hb] at d2 ⊢
  rw [hc] at d3 ⊢
  rw [he] at d4 ⊢
  exact Q4.mk.injEq .. ▸ ⟨d1, d2, d3, d4⟩
theorem plusQ_bd {p q : Q4} (hp : p.bd) (hq : q.bd) : (plusQ p q).bd := by
  obtain ⟨p1, p2, p3, p4⟩ := hp
  obtain ⟨q1, q2, q3, q4⟩ := hq
  have ma := minZ_bd p2.1 p2.2 p1.1 p1.2
  have mb := minZ_bd q2.1 q2.2 q1.1 q1.2
  have mc := timesZ_bd ma.1 ma.2 mb.1 mb.2
  have pa' := plusZ_bd p2.1 p2.2 p1.1 p1.2
  have pb' := plusZ_bd q2.1 q2.2 q1.1 q1.2
  have pc := timesZ_bd pa'.1 pa'.2 pb'.1 pb'.2
  have t1 := timesZ_bd p4.1 p4.2 q4.1 q4.2
  have t2 := timesZ_bd (B := DD) t1.1 t1.2 (by decide) (by decide)
  have hc := plusZ_bd t2.1 t2.2 t2.1 t2.2
  have z1 := timesZ_bd p3.1 p3.2 q3.1 q3.2
  have hz := plusZ_bd z1.1 z1.2 z1.1 z1.2
  have he := minZ_bd pc.1 pc.2 mc.1 mc.2
  have hh := plusZ_bd pc.1 pc.2 mc.1 mc.2
  have hf := minZ_bd hz.1 hz.2 hc.1 hc.2
  have hg := plusZ_bd hz.1 hz.2 hc.1 hc.2
  exact ⟨timesZ_bd he.1 he.2 hf.1 hf.2, timesZ_bd hg.1 hg.2 hh.1 hh.2, timesZ_bd hf.1 hf.2 hg.1 hg.2, timesZ_bd he.1 he.2 hh.1 hh.2⟩
theorem mulQ_bd {p : Q4} (hp : p.bd) (n : Int) : ∀ k, (mulQ p n k).bd
  | 0 => by unfold mulQ Q4.bd; decide
  | k + 1 => by
    have ih := mulQ_bd hp n k
    unfold mulQ
    split
    · exact plusQ_bd (plusQ_bd ih ih) hp
    · exact plusQ_bd ih ih
theorem decX_bd (A : Int) : 0 ≤ decX A ∧ decX A < WW := by
  have h := eroot_bd (argQ (A % H255))
  have hL := PP_lt
  unfold decX
  split
  · exact minZ_bd (A := 0) (by decide) (by decide) h.1 (by omega)
  · exact ⟨h.1, by omega⟩
theorem H255_lt : 0 < H255 ∧ WW = 2 * H255 ∧ PP < H255 := by decide
theorem decQ_bd (A : Int) : (decQ A).bd := by
  have h := decX_bd A
  have hH := H255_lt
  have y0 := Int.emod_nonneg A (b := H255) (by omega)
  have y1 := Int.emod_lt_of_pos A hH.1
  exact ⟨h, ⟨y0, by show A % H255 < WW; omega⟩, (by show (0 : Int) ≤ 1 ∧ (1 : Int) < WW; decide), timesZ_bd h.1 h.2 y0 (by omega)⟩
theorem Lq_bd {l : List Int} (hl : l.length = 16) (h : ∀ z ∈ l, Go.Sx.InR .u64 z) : (Lq l).bd := by
  have go : ∀ m : List Int, m.length = 4 → (∀ z ∈ m, z ∈ l) → 0 ≤ dv MM m ∧ dv MM m < WW := fun m hm hs => bdW hm fun z hz => h z (hs z hz)
  refine ⟨go _ (by simp; omega) fun z hz => List.mem_of_mem_take hz, go _ (by simp; omega) fun z hz => List.mem_of_mem_drop (List.mem_of_mem_take hz), go _ (by simp; omega) fun z hz => List.mem_of_mem_drop (List.mem_of_mem_take hz), go _ (by simp; omega) fun z hz => List.mem_of_mem_drop (List.mem_of_mem_take hz)⟩
/-- What the functions of points make of integers. -/
noncomputable def pg (j : Nat) (xs : List (List Int)) : List Int :=
  match j, xs with
  | 79, [a] => dg MM 4 (powZ (dv MM a) (PP - 2) 256)
  | 83, [p, q] => qL (plusQ (Lq p) (Lq q))
  | 84, [p, n] => qL (mulQ (Lq p) (dv 256 n) 256)
  | 86, [p] => dg 256 32 (encQ (Lq p))
  | 87, [a] => if decOK (dv 256 a) then qL (decQ (dv 256 a)) ++ [1] else List.replicate 16 0 ++ [0]
  | 88, [a] => [b2i (decide (decOK (dv 256 a)))]
  | 89, _ => dg 256 32 1
  | 91, _ => dg 256 32 (enc BP)
  | 92, [a, b] => if decOK (dv 256 a) ∧ decOK (dv 256 b) then dg 256 32 (encQ (plusQ (decQ (dv 256 a)) (decQ (dv 256 b)))) ++ [0] else dg 256 32 0 ++ [3]
  | 93, [a] => if decOK (dv 256 a) then dg 256 32 (encQ (negQ (decQ (dv 256 a)))) ++ [0] else dg 256 32 0 ++ [3]
  | 94, [n, a] => if decOK (dv 256 a) then dg 256 32 (encQ (mulQ (decQ (dv 256 a)) (dv 256 n) 256)) ++ [0] else dg 256 32 0 ++ [3]
  | 95, [a] => if decOK (dv 256 a) then dg 256 32 (decX (dv 256 a) % PP) ++ (dg 256 32 (dv 256 a % H255) ++ [0]) else dg 256 32 0 ++ (dg 256 32 0 ++ [3])
  | 98, [s] => -1 :: ((s.drop 1).take 48 ++ qL (mulQ (Lq ((s.drop 1).take 16)) (dv 256 ((s.drop 17).take 32)) 256))
  | 100, [a, b] => dg 256 32 ((dv 256 a + dv 256 b) % 7237005577332262213973186563042994240857116359379907606001950938285454250989)
  | 101, [a, b] => dg 256 32 ((dv 256 a * dv 256 b) % 7237005577332262213973186563042994240857116359379907606001950938285454250989)
  | 102, [a] => dg 256 32 (dv 256 a % 7237005577332262213973186563042994240857116359379907606001950938285454250989)
  | 96, [n] => dg 256 32 (encQ (mulQ bQ (dv 256 n) 256))
  | 97, [s, r, n, a] => [b2i (decide (decOK (dv 256 r) ∧ decOK (dv 256 a) ∧ dg 256 32 (encQ (mulQ bQ (dv 256 s) 256)) = dg 256 32 (encQ (plusQ (decQ (dv 256 r)) (mulQ (decQ (dv 256 a)) (dv 256 n) 256)))))]
  | 110, _ => []
  | 111, _ => [1]
  | 112, _ => [1]
  | 113, _ => [1]
  | 114, _ => [1]
  | 115, _ => [1]
  | 116, _ => [1]
  | j, xs => sg j xs
def ppre (j : Nat) (xs : List (List Int)) : Prop :=
  match j, xs with
  | 98, [s] => s.getD 0 0 = 255 ∧ (s.drop 49).take 16 = sp0
  | 110, [a] => a = dg 256 32 (enc BP)
  | j, xs => sp j xs
noncomputable def pfns : Fns := ⟨pg, ppre⟩
theorem swap {c : Ctr} (h : CtrOK Try.prog sfns c) (hg : pfns.g c.j = sfns.g c.j) (hp : pfns.pre c.j = sfns.pre c.j) : CtrOK Try.prog pfns c := by
  unfold CtrOK at *; rw [hg, hp]; exact h
def PT0 : List Ctr := [cRoot, cEGood, cLess, cFrom, cNorm, cWord, cPlus, cMinus, cTimes, cPower]
theorem okPT0 : ∀ c ∈ PT0, CtrOK Try.prog pfns c := by
  intro c hc
  simp only [PT0, List.mem_cons, List.not_mem_nil, or_false] at hc
  rcases hc with rfl | rfl | rfl | rfl | rfl | rfl | rfl | rfl | rfl | rfl
  · exact swap okRoot rfl rfl
  · exact swap okEGood rfl rfl
  · exact swap okLess rfl rfl
  · exact swap okFrom rfl rfl
  · exact swap okNorm rfl rfl
  · exact swap okWord rfl rfl
  · exact swap okPlus rfl rfl
  · exact swap okMinus rfl rfl
  · exact swap okTimes rfl rfl
  · exact swap okPower rfl rfl
def cInv : Ctr := ⟨55, 79, [.arr .u64 4], [.arr .u64 4]⟩
theorem okInv : CtrOK Try.prog pfns cInv := by
  refine CtrOK.of okPT0 mixed (lf := 300) (d := 5) rfl fun w vs xs ha _ => ?_
  obtain ⟨v, a, rfl, rfl, ⟨la, -, ia⟩⟩ := open1 ha
  have bA := bdW la ia
  refine Go.Sx.Way.of (dec := []) (fs := [.need 11 [[.l 18446744073709551597, .l 18446744073709551615, .l 18446744073709551615, .l 9223372036854775807], [.l 2, .l 0, .l 0, .l 0]], .call 4 11 [[.l 18446744073709551597, .l 18446744073709551615, .l 18446744073709551615, .l 9223372036854775807], [.l 2, .l 0, .l 0, .l 0]] 5, .need 19 [[.v 0, .v 1, .v 2, .v 3], [.v 4, .v 5, .v 6, .v 7]], .call 9 19 [[.v 0, .v 1, .v 2, .v 3], [.v 4, .v 5, .v 6, .v 7]] 4]) (refs := [.v 9, .v 10, .v 11, .v 12]) (by kernel_rfl) fun ρ hρ hd => ?_
  have ea := seg0 la hρ
  simp only [D_nil, D_add, D_sub, D_mul, D_and, D_or, D_xor, D_shl, D_shr, D_andNot, D_quo, D_rem, D_add_i64, D_sub_i64, D_mul_i64, D_add_u32, D_sub_u32, D_mul_u32, D_add_u8, D_sub_u8, D_mul_u8, D_eql, D_neq, D_lss, D_leq, D_gtr, D_geq, D_not, D_conv, D_eqs, D_call, D_cond, D_need, D_idx, D_sel, D_upd, D_shv, D_beq, List.map_cons, List.map_nil, Ref.den] at hd
  obtain ⟨h4, h9, -⟩ := hd
  obtain ⟨s4, -⟩ := less_seg (a := [18446744073709551597, 18446744073709551615, 18446744073709551615, 9223372036854775807]) (b := [2, 0, 0, 0]) h4
  have s9 : seg ρ 9 4 = dg MM 4 (powZ (dv MM (seg ρ 0 4)) (dv MM (seg ρ 4 4)) 256) := seg_of h9 (dg_len _ _ _)
  rw [prime_eq, show dv MM [2, 0, 0, 0] = 2 by decide] at s4
  rw [ea, s4, dvW (x := PP - 2) (by decide) (by decide)] at s9
  refine ⟨by simp only [G_nil, G_bin, G_cmp, G_not, G_conv, G_eqs, G_call, G_cond, G_need, G_idx, G_sel, G_upd, G_shv, G_beq, List.map_cons, List.map_nil, Ref.den]; exact ⟨trivial, trivial, trivial⟩, ?_⟩
  exact s9
def PT1 : List Ctr := cInv :: PT0
theorem okPT1 : ∀ c ∈ PT1, CtrOK Try.prog pfns c := by
  intro c hc
  rcases List.mem_cons.1 hc with rfl | hc
  · exact okInv
  · exact okPT0 c hc
theorem fp {l : List Int} {A B : Int} (s : l = dg MM 4 (plusZ A B)) (ha : 0 ≤ A ∧ A < WW) (hb : 0 ≤ B ∧ B < WW) : dv MM l = plusZ A B ∧ (0 ≤ dv MM l ∧ dv MM l < WW) := by
  have b := plusZ_bd ha.1 ha.2 hb.1 hb.2
  have e : dv MM l = plusZ A B := by rw [s, dvW b.1 b.2]
  exact ⟨e, by rw [e]; exact b⟩
theorem fm {l : List Int} {A B : Int} (s : l = dg MM 4 (minZ A B)) (ha : 0 ≤ A ∧ A < WW) (hb : 0 ≤ B ∧ B < WW) : dv MM l = minZ A B ∧ (0 ≤ dv MM l ∧ dv MM l < WW) := by
  have b := minZ_bd ha.1 ha.2 hb.1 hb.2
  have e : dv MM l = minZ A B := by rw [s, dvW b.1 b.2]
  exact ⟨e, by rw [e]; exact b⟩
theorem ft {l : List Int} {A B : Int} (s : l = dg MM 4 (timesZ A B)) (ha : 0 ≤ A ∧ A < WW) (hb : 0 ≤ B ∧ B < WW) : dv MM l = timesZ A B ∧ (0 ≤ dv MM l ∧ dv MM l < WW) := by
  have b := timesZ_bd ha.1 ha.2 hb.1 hb.2
  have e : dv MM l = timesZ A B := by rw [s, dvW b.1 b.2]
  exact ⟨e, by rw [e]; exact b⟩
theorem bD : 0 ≤ dv MM [8496970652267935907, 31536524315187371, 10144147576115030168, 5909686906226998899] ∧ dv MM [8496970652267935907, 31536524315187371, 10144147576115030168, 5909686906226998899] < WW := by decide
theorem eD : dv MM [8496970652267935907, 31536524315187371, 10144147576115030168, 5909686906226998899] = DD := by decide
theorem b1 : 0 ≤ dv MM [1, 0, 0, 0] ∧ dv MM [1, 0, 0, 0] < WW := by decide
theorem bZ : 0 ≤ dv MM [0, 0, 0, 0] ∧ dv MM [0, 0, 0, 0] < WW := by decide
theorem e_one : dv MM [1, 0, 0, 0] = 1 := by decide
theorem e_nil : dv MM [0, 0, 0, 0] = 0 := by decide
def cSPlus : Ctr := ⟨41, 83, [.arr .u64 16, .arr .u64 16], [.arr .u64 16]⟩
theorem okSPlus : CtrOK Try.prog pfns cSPlus := by
  refine CtrOK.of okPT1 mixed (lf := 300) (d := 5) rfl fun w vs xs ha _ => ?_
  obtain ⟨v, u, a, b, rfl, rfl, ⟨la, -, ia⟩, ⟨lb, -, ib⟩⟩ := open2 ha
  refine Go.Sx.Way.of (dec := []) (fs := [.need 16 [[.v 4, .v 5, .v 6, .v 7], [.v 0, .v 1, .v 2, .v 3]], .call 32 16 [[.v 4, .v 5, .v 6, .v 7], [.v 0, .v 1, .v 2, .v 3]] 4, .need 16 [[.v 20, .v 21, .v 22, .v 23], [.v 16, .v 17, .v 18, .v 19]], .call 36 16 [[.v 20, .v 21, .v 22, .v 23], [.v 16, .v 17, .v 18, .v 19]] 4, .need 18 [[.v 32, .v 33, .v 34, .v 35], [.v 36, .v 37, .v 38, .v 39]], .call 40 18 [[.v 32, .v 33, .v 34, .v 35], [.v 36, .v 37, .v 38, .v 39]] 4, .need 15 [[.v 4, .v 5, .v 6, .v 7], [.v 0, .v 1, .v 2, .v 3]], .call 44 15 [[.v 4, .v 5, .v 6, .v 7], [.v 0, .v 1, .v 2, .v 3]] 4, .need 15 [[.v 20, .v 21, .v 22, .v 23], [.v 16, .v 17, .v 18, .v 19]], .call 48 15 [[.v 20, .v 21, .v 22, .v 23], [.v 16, .v 17, .v 18, .v 19]] 4, .need 18 [[.v 44, .v 45, .v 46, .v 47], [.v 48, .v 49, .v 50, .v 51]], .call 52 18 [[.v 44, .v 45, .v 46, .v 47], [.v 48, .v 49, .v 50, .v 51]] 4, .need 18 [[.v 12, .v 13, .v 14, .v 15], [.v 28, .v 29, .v 30, .v 31]], .call 56 18 [[.v 12, .v 13, .v 14, .v 15], [.v 28, .v 29, .v 30, .v 31]] 4, .need 18 [[.v 56, .v 57, .v 58, .v 59], [.l 8496970652267935907, .l 31536524315187371, .l 10144147576115030168, .l 5909686906226998899]], .call 60 18 [[.v 56, .v 57, .v 58, .v 59], [.l 8496970652267935907, .l 31536524315187371, .l 10144147576115030168, .l 5909686906226998899]] 4, .need 15 [[.v 60, .v 61, .v 62, .v 63], [.v 60, .v 61, .v 62, .v 63]], .call 64 15 [[.v 60, .v 61, .v 62, .v 63], [.v 60, .v 61, .v 62, .v 63]] 4, .need 18 [[.v 8, .v 9, .v 10, .v 11], [.v 24, .v 25, .v 26, .v 27]], .call 68 18 [[.v 8, .v 9, .v 10, .v 11], [.v 24, .v 25, .v 26, .v 27]] 4, .need 15 [[.v 68, .v 69, .v 70, .v 71], [.v 68, .v 69, .v 70, .v 71]], .call 72 15 [[.v 68, .v 69, .v 70, .v 71], [.v 68, .v 69, .v 70, .v 71]] 4, .need 16 [[.v 52, .v 53, .v 54, .v 55], [.v 40, .v 41, .v 42, .v 43]], .call 76 16 [[.v 52, .v 53, .v 54, .v 55], [.v 40, .v 41, .v 42, .v 43]] 4, .need 16 [[.v 72, .v 73, .v 74, .v 75], [.v 64, .v 65, .v 66, .v 67]], .call 80 16 [[.v 72, .v 73, .v 74, .v 75], [.v 64, .v 65, .v 66, .v 67]] 4, .need 15 [[.v 72, .v 73, .v 74, .v 75], [.v 64, .v 65, .v 66, .v 67]], .call 84 15 [[.v 72, .v 73, .v 74, .v 75], [.v 64, .v 65, .v 66, .v 67]] 4, .need 15 [[.v 52, .v 53, .v 54, .v 55], [.v 40, .v 41, .v 42, .v 43]], .call 88 15 [[.v 52, .v 53, .v 54, .v 55], [.v 40, .v 41, .v 42, .v 43]] 4, .need 18 [[.v 76, .v 77, .v 78, .v 79], [.v 80, .v 81, .v 82, .v 83]], .call 92 18 [[.v 76, .v 77, .v 78, .v 79], [.v 80, .v 81, .v 82, .v 83]] 4, .need 18 [[.v 84, .v 85, .v 86, .v 87], [.v 88, .v 89, .v 90, .v 91]], .call 96 18 [[.v 84, .v 85, .v 86, .v 87], [.v 88, .v 89, .v 90, .v 91]] 4, .need 18 [[.v 80, .v 81, .v 82, .v 83], [.v 84, .v 85, .v 86, .v 87]], .call 100 18 [[.v 80, .v 81, .v 82, .v 83], [.v 84, .v 85, .v 86, .v 87]] 4, .need 18 [[.v 76, .v 77, .v 78, .v 79], [.v 88, .v 89, .v 90, .v 91]], .call 104 18 [[.v 76, .v 77, .v 78, .v 79], [.v 88, .v 89, .v 90, .v 91]] 4]) (refs := [.v 92, .v 93, .v 94, .v 95, .v 96, .v 97, .v 98, .v 99, .v 100, .v 101, .v 102, .v 103, .v 104, .v 105, .v 106, .v 107]) (by kernel_rfl) fun ρ hρ hd => ?_
  obtain ⟨ea, eb⟩ := seg2 la lb hρ
  have hA := Lq_bd la ia
  have hB := Lq_bd lb ib
  rw [← ea] at hA
  rw [← eb] at hB
  have b0 : 0 ≤ dv MM (seg ρ 0 4) ∧ dv MM (seg ρ 0 4) < WW := hA.1
  have b4 : 0 ≤ dv MM (seg ρ 4 4) ∧ dv MM (seg ρ 4 4) < WW := hA.2.1
  have b8 : 0 ≤ dv MM (seg ρ 8 4) ∧ dv MM (seg ρ 8 4) < WW := hA.2.2.1
  have b12 : 0 ≤ dv MM (seg ρ 12 4) ∧ dv MM (seg ρ 12 4) < WW := hA.2.2.2
  have b16 : 0 ≤ dv MM (seg ρ 16 4) ∧ dv MM (seg ρ 16 4) < WW := hB.1
  have b20 : 0 ≤ dv MM (seg ρ 20 4) ∧ dv MM (seg ρ 20 4) < WW := hB.2.1
  have b24 : 0 ≤ dv MM (seg ρ 24 4) ∧ dv MM (seg ρ 24 4) < WW := hB.2.2.1
  have b28 : 0 ≤ dv MM (seg ρ 28 4) ∧ dv MM (seg ρ 28 4) < WW := hB.2.2.2
  simp only [D_nil, D_add, D_sub, D_mul, D_and, D_or, D_xor, D_shl, D_shr, D_andNot, D_quo, D_rem, D_add_i64, D_sub_i64, D_mul_i64, D_add_u32, D_sub_u32, D_mul_u32, D_add_u8, D_sub_u8, D_mul_u8, D_eql, D_neq, D_lss, D_leq, D_gtr, D_geq, D_not, D_conv, D_eqs, D_call, D_cond, D_need, D_idx, D_sel, D_upd, D_shv, D_beq, List.map_cons, List.map_nil, Ref.den] at hd
  obtain ⟨h32, h36, h40, h44, h48, h52, h56, h60, h64, h68, h72, h76, h80, h84, h88, h92, h96, h100, h104, -⟩ := hd
  have s32 : seg ρ 32 4 = dg MM 4 (minZ (dv MM (seg ρ 4 4)) (dv MM (seg ρ 0 4))) := seg_of h32 (dg_len _ _ _)
  obtain ⟨e32, b32⟩ := fm s32 b4 b0
  have s36 : seg ρ 36 4 = dg MM 4 (minZ (dv MM (seg ρ 20 4)) (dv MM (seg ρ 16 4))) := seg_of h36 (dg_len _ _ _)
  obtain ⟨e36, b36⟩ := fm s36 b20 b16
  have s40 : seg ρ 40 4 = dg MM 4 (timesZ (dv MM (seg ρ 32 4)) (dv MM (seg ρ 36 4))) := seg_of h40 (dg_len _ _ _)
  obtain ⟨e40, b40⟩ := ft s40 b32 b36
  have s44 : seg ρ 44 4 = dg MM 4 (plusZ (dv MM (seg ρ 4 4)) (dv MM (seg ρ 0 4))) := seg_of h44 (dg_len _ _ _)
  obtain ⟨e44, b44⟩ := fp s44 b4 b0
  have s48 : seg ρ 48 4 = dg MM 4 (plusZ (dv MM (seg ρ 20 4)) (dv MM (seg ρ 16 4))) := seg_of h48 (dg_len _ _ _)
  obtain ⟨e48, b48⟩ := fp s48 b20 b16
  have s52 : seg ρ 52 4 = dg MM 4 (timesZ (dv MM (seg ρ 44 4)) (dv MM (seg ρ 48 4))) := seg_of h52 (dg_len _ _ _)
  obtain ⟨e52, b52⟩ := ft s52 b44 b48
  have s56 : seg ρ 56 4 = dg MM 4 (timesZ (dv MM (seg ρ 12 4)) (dv MM (seg ρ 28 4))) := seg_of h56 (dg_len _ _ _)
  obtain ⟨e56, b56⟩ := ft s56 b12 b28
  have s60 : seg ρ 60 4 = dg MM 4 (timesZ (dv MM (seg ρ 56 4)) (dv MM [8496970652267935907, 31536524315187371, 10144147576115030168, 5909686906226998899])) := seg_of h60 (dg_len _ _ _)
  obtain ⟨e60, b60⟩ := ft s60 b56 bD
  have s64 : seg ρ 64 4 = dg MM 4 (plusZ (dv MM (seg ρ 60 4)) (dv MM (seg ρ 60 4))) := seg_of h64 (dg_len _ _ _)
  obtain ⟨e64, b64⟩ := fp s64 b60 b60
  have s68 : seg ρ 68 4 = dg MM 4 (timesZ (dv MM (seg ρ 8 4)) (dv MM (seg ρ 24 4))) := seg_of h68 (dg_len _ _ _)
  obtain ⟨e68, b68⟩ := ft s68 b8 b24
  have s72 : seg ρ 72 4 = dg MM 4 (plusZ (dv MM (seg ρ 68 4)) (dv MM (seg ρ 68 4))) := seg_of h72 (dg_len _ _ _)
  obtain ⟨e72, b72⟩ := fp s72 b68 b68
  have s76 : seg ρ 76 4 = dg MM 4 (minZ (dv MM (seg ρ 52 4)) (dv MM (seg ρ 40 4))) := seg_of h76 (dg_len _ _ _)
  obtain ⟨e76, b76⟩ := fm s76 b52 b40
  have s80 : seg ρ 80 4 = dg MM 4 (minZ (dv MM (seg ρ 72 4)) (dv MM (seg ρ 64 4))) := seg_of h80 (dg_len _ _ _)
  obtain ⟨e80, b80⟩ := fm s80 b72 b64
  have s84 : seg ρ 84 4 = dg MM 4 (plusZ (dv MM (seg ρ 72 4)) (dv MM (seg ρ 64 4))) := seg_of h84 (dg_len _ _ _)
  obtain ⟨e84, b84⟩ := fp s84 b72 b64
  have s88 : seg ρ 88 4 = dg MM 4 (plusZ (dv MM (seg ρ 52 4)) (dv MM (seg ρ 40 4))) := seg_of h88 (dg_len _ _ _)
  obtain ⟨e88, b88⟩ := fp s88 b52 b40
  have s92 : seg ρ 92 4 = dg MM 4 (timesZ (dv MM (seg ρ 76 4)) (dv MM (seg ρ 80 4))) := seg_of h92 (dg_len _ _ _)
  obtain ⟨e92, b92⟩ := ft s92 b76 b80
  have s96 : seg ρ 96 4 = dg MM 4 (timesZ (dv MM (seg ρ 84 4)) (dv MM (seg ρ 88 4))) := seg_of h96 (dg_len _ _ _)
  obtain ⟨e96, b96⟩ := ft s96 b84 b88
  have s100 : seg ρ 100 4 = dg MM 4 (timesZ (dv MM (seg ρ 80 4)) (dv MM (seg ρ 84 4))) := seg_of h100 (dg_len _ _ _)
  obtain ⟨e100, b100⟩ := ft s100 b80 b84
  have s104 : seg ρ 104 4 = dg MM 4 (timesZ (dv MM (seg ρ 76 4)) (dv MM (seg ρ 88 4))) := seg_of h104 (dg_len _ _ _)
  obtain ⟨e104, b104⟩ := ft s104 b76 b88
  refine ⟨by simp only [G_nil, G_bin, G_cmp, G_not, G_conv, G_eqs, G_call, G_cond, G_need, G_idx, G_sel, G_upd, G_shv, G_beq, List.map_cons, List.map_nil, Ref.den]; exact ⟨trivial, trivial, trivial, trivial, trivial, trivial, trivial, trivial, trivial, trivial, trivial, trivial, trivial, trivial, trivial, trivial, trivial, trivial, trivial, trivial⟩, ?_⟩
  have e1 : Lq a = ⟨dv MM (seg ρ 0 4), dv MM (seg ρ 4 4), dv MM (seg ρ 8 4), dv MM (seg ρ 12 4)⟩ := by rw [← ea]; rfl
  have e2 : Lq b = ⟨dv MM (seg ρ 16 4), dv MM (seg ρ 20 4), dv MM (seg ρ 24 4), dv MM (seg ρ 28 4)⟩ := by rw [← eb]; rfl
  show seg ρ 92 4 ++ (seg ρ 96 4 ++ (seg ρ 100 4 ++ seg ρ 104 4)) = qL (plusQ (Lq a) (Lq b))
  rw [s92, s96, s100, s104, e88, e84, e80, e76, e72, e68, e64, e60, e56, e52, e48, e44, e40, e36, e32, eD, e1, e2]
  rfl
def PT2 : List Ctr := cSPlus :: PT1
theorem okPT2 : ∀ c ∈ PT2, CtrOK Try.prog pfns c := by
  intro c hc
  rcases List.mem_cons.1 hc with rfl | hc
  · exact okSPlus
  · exact okPT1 c hc
end Go.Proofs.Ytfobnajgnnccmaa

namespace Go.Bx
theorem peight : (2 : Int) ^ 8 = 256 := by decide
theorem pseg_sp (ρ : Nat → Int) (a n m : Nat) : seg ρ a (n + m) = seg ρ a n ++ seg ρ (a + n) m := by
  unfold seg
  rw [List.range_add, List.map_append, List.map_map]
  congr 1
  exact List.map_congr_left fun i _ => by simp only [Function.comp_apply, Nat.add_assoc]
end Go.Bx
namespace Go.Proofs.Ytfobnajgnnccmaa
open Go.RowKit Go.Bx Go.Sx
set_option linter.unusedSimpArgs false
set_option maxRecDepth 100000
def cSTimes : Ctr := ⟨49, 84, [.arr .u64 16, .arr .u8 32], [.arr .u64 16]⟩
noncomputable def ptT : LoopT := ⟨[.any, .any, .c (.ptr 0 0), .c (.ptr 1 0), .c (.ptr 2 0), .c (.ptr 3 0), .c (.int .i64 (.v 0)), .any, .any, .any, .any, .any, .any, .any, .any, .any, .any, .any, .any, .any, .any, .any, .any, .any, .any, .any, .any, .any], [some ⟨59, [.int .u64 (.v 1), .int .u64 (.v 2), .int .u64 (.v 3), .int .u64 (.v 4), .int .u64 (.v 5), .int .u64 (.v 6), .int .u64 (.v 7), .int .u64 (.v 8), .int .u64 (.v 9), .int .u64 (.v 10), .int .u64 (.v 11), .int .u64 (.v 12), .int .u64 (.v 13), .int .u64 (.v 14), .int .u64 (.v 15), .int .u64 (.v 16)]⟩, some ⟨26, [.int .u8 (.v 17), .int .u8 (.v 18), .int .u8 (.v 19), .int .u8 (.v 20), .int .u8 (.v 21), .int .u8 (.v 22), .int .u8 (.v 23), .int .u8 (.v 24), .int .u8 (.v 25), .int .u8 (.v 26), .int .u8 (.v 27), .int .u8 (.v 28), .int .u8 (.v 29), .int .u8 (.v 30), .int .u8 (.v 31), .int .u8 (.v 32), .int .u8 (.v 33), .int .u8 (.v 34), .int .u8 (.v 35), .int .u8 (.v 36), .int .u8 (.v 37), .int .u8 (.v 38), .int .u8 (.v 39), .int .u8 (.v 40), .int .u8 (.v 41), .int .u8 (.v 42), .int .u8 (.v 43), .int .u8 (.v 44), .int .u8 (.v 45), .int .u8 (.v 46), .int .u8 (.v 47), .int .u8 (.v 48)]⟩, some ⟨59, [.int .u64 (.l 0), .int .u64 (.l 0), .int .u64 (.l 0), .int .u64 (.l 0), .int .u64 (.l 0), .int .u64 (.l 0), .int .u64 (.l 0), .int .u64 (.l 0), .int .u64 (.l 0), .int .u64 (.l 0), .int .u64 (.l 0), .int .u64 (.l 0), .int .u64 (.l 0), .int .u64 (.l 0), .int .u64 (.l 0), .int .u64 (.l 0)]⟩, some ⟨59, [.int .u64 (.v 49), .int .u64 (.v 50), .int .u64 (.v 51), .int .u64 (.v 52), .int .u64 (.v 53), .int .u64 (.v 54), .int .u64 (.v 55), .int .u64 (.v 56), .int .u64 (.v 57), .int .u64 (.v 58), .int .u64 (.v 59), .int .u64 (.v 60), .int .u64 (.v 61), .int .u64 (.v 62), .int .u64 (.v 63), .int .u64 (.v 64)]⟩], 65, 98, 0, [.l 255, .v 0, .v 1, .v 2, .v 3, .v 4, .v 5, .v 6, .v 7, .v 8, .v 9, .v 10, .v 11, .v 12, .v 13, .v 14, .v 15, .v 16, .v 17, .v 18, .v 19, .v 20, .v 21, .v 22, .v 23, .v 24, .v 25, .v 26, .v 27, .v 28, .v 29, .v 30, .v 31, .v 32, .v 33, .v 34, .v 35, .v 36, .v 37, .v 38, .v 39, .v 40, .v 41, .v 42, .v 43, .v 44, .v 45, .v 46, .v 47, .l 0, .l 0, .l 0, .l 0, .l 1, .l 0, .l 0, .l 0, .l 1, .l 0, .l 0, .l 0, .l 0, .l 0, .l 0, .l 0]⟩
noncomputable def ptB : Code := (Try.f49).body.getD .skip
theorem psplit48 {ρ ρ' : Nat → Int} (h : seg ρ 1 48 = seg ρ' 1 48) : seg ρ 1 16 = seg ρ' 1 16 ∧ seg ρ 17 32 = seg ρ' 17 32 := by
  rw [pseg_sp ρ 1 16 32, pseg_sp ρ' 1 16 32] at h
  exact List.append_inj h (by rw [seg_len, seg_len])
theorem pt_get (ρ : Nat → Int) {i : Nat} (hi : i < 65) : ρ i = ([ρ 0] ++ (seg ρ 1 48 ++ seg ρ 49 16)).getD i 0 := by
  rw [show [ρ 0] ++ (seg ρ 1 48 ++ seg ρ 49 16) = seg ρ 0 65 from rfl, seg_get hi, Nat.zero_add]
theorem pt_dig {ρ : Nat → Int} (hT : TOk ptT.slT ptT.memT ρ) : Dig 256 (seg ρ 17 32) := by
  have h2 : ∀ c ∈ (List.range 32).map (fun i => C.int .u8 (.v (17 + i))), C.inr ρ c := hT.m _ (List.mem_cons_of_mem _ (List.mem_cons_self ..))
  exact dig8 (seg_inr h2)
theorem pt_bd {ρ : Nat → Int} (hT : TOk ptT.slT ptT.memT ρ) : (Lq (seg ρ 1 16)).bd := by
  have h2 : ∀ c ∈ (List.range 16).map (fun i => C.int .u64 (.v (1 + i))), C.inr ρ c := hT.m _ (List.mem_cons_self ..)
  exact Lq_bd (seg_len ..) (seg_inr h2)
def ptI (ρ0 ρ : Nat → Int) : Prop :=
  seg ρ 1 48 = seg ρ0 1 48 ∧ -1 ≤ ρ 0 ∧ ρ 0 ≤ 255 ∧ (Lq (seg ρ0 1 16)).bd ∧ Dig 256 (seg ρ0 17 32) ∧ seg ρ 49 16 = qL (mulQ (Lq (seg ρ0 1 16)) (dv 256 (seg ρ0 17 32)) (255 - ρ 0).toNat)
theorem pt_after {ρ0 ρT : Nat → Int} {n : Nat} (hn : ρT 0 = n) (i2 : ρT 0 ≤ 255) (bA : (Lq (seg ρ0 1 16)).bd) (dN : Dig 256 (seg ρ0 17 32)) {O : List Int} (hO : O = qL (mulQ (Lq (seg ρ0 1 16)) (dv 256 (seg ρ0 17 32)) (255 - n + 1))) {x' : Nat → Int} (hx : x' = fun i => ([ρT 0 - 1] ++ (seg ρ0 1 48 ++ O)).getD i 0) : ptI ρ0 x' ∧ (x' 0 + 1).toNat < (ρT 0 + 1).toNat := by
  have x0 : x' 0 = ρT 0 - 1 := by rw [hx]; rfl
  have lO : O.length = 16 := by rw [hO]; exact qL_len _
  have xa : seg x' 1 48 = seg ρ0 1 48 := by
    have := seg_mid [ρT 0 - 1] (seg ρ0 1 48) O
    rw [seg_len] at this; rw [hx]; exact this
  have xb : seg x' 49 16 = O := by
    have := seg_end [ρT 0 - 1] (seg ρ0 1 48) O
    rw [seg_len, lO] at this; rw [hx]; exact this
  exact ⟨⟨xa, by rw [x0]; omega, by rw [x0]; omega, bA, dN, by rw [xb, hO, x0]; congr 2; omega⟩, by rw [x0]; omega⟩
theorem pt_go {cl : Code} (hb : loopAt 0 ptB = some cl) {ρ0 ρT : Nat → Int} (hI : ptI ρ0 ρT) (hge : 0 ≤ ρT 0) :
    ∃ e x', RoundEnd Try.prog pfns (callN Try.prog PT2 300 5) 300 cl ptT.slT ptT.memT ptT.m ρT e x' ∧ ((e = .normal ∧ ptI ρ0 x' ∧ (x' 0 + 1).toNat < (ρT 0 + 1).toNat) ∨ (e = .exit ptT.xid ∧ ∀ i, i < ptT.m → x' i = (pfns.g ptT.j [xs ptT.m ρ0]).getD i 0)) := by
  obtain ⟨i1, i2, i3, bA, dN, i4⟩ := hI
  obtain ⟨n, hn⟩ := Int.eq_ofNat_of_zero_le hge
  have hn255 : n ≤ 255 := by omega
  rw [hn, show (255 - (n : Int)).toNat = 255 - n by omega] at i4
  have bO := mulQ_bd bA (dv 256 (seg ρ0 17 32)) (255 - n)
  obtain ⟨O, hO⟩ : ∃ O, O = mulQ (Lq (seg ρ0 1 16)) (dv 256 (seg ρ0 17 32)) (255 - n) := ⟨_, rfl⟩
  rw [← hO] at i4 bO
  have hstep : mulQ (Lq (seg ρ0 1 16)) (dv 256 (seg ρ0 17 32)) (255 - n + 1) = if dv 256 (seg ρ0 17 32) / 2 ^ n % 2 = 1 then plusQ (plusQ O O) (Lq (seg ρ0 1 16)) else plusQ O O := by
    rw [hO]
    show (if _ / 2 ^ (255 - (255 - n)) % 2 = 1 then _ else _) = _
    rw [show 255 - (255 - n) = n by omega]
  by_cases hbt : dv 256 (seg ρ0 17 32) / 2 ^ n % 2 = 1
  · rw [if_pos hbt] at hstep
    have hk : roundB Try.prog PT2 300 5 (loopAt 0 ptB) ptT [true,true] none [.cmp 65 .geq (.v 0) (.l 0), .cond 65 true, .need 83 [[.v 49, .v 50, .v 51, .v 52, .v 53, .v 54, .v 55, .v 56, .v 57, .v 58, .v 59, .v 60, .v 61, .v 62, .v 63, .v 64], [.v 49, .v 50, .v 51, .v 52, .v 53, .v 54, .v 55, .v 56, .v 57, .v 58, .v 59, .v 60, .v 61, .v 62, .v 63, .v 64]], .call 66 83 [[.v 49, .v 50, .v 51, .v 52, .v 53, .v 54, .v 55, .v 56, .v 57, .v 58, .v 59, .v 60, .v 61, .v 62, .v 63, .v 64], [.v 49, .v 50, .v 51, .v 52, .v 53, .v 54, .v 55, .v 56, .v 57, .v 58, .v 59, .v 60, .v 61, .v 62, .v 63, .v 64]] 16, .bin 82 .quo .i64 (.v 0) (.l 8), .idx 82 32, .sel 83 [.v 17, .v 18, .v 19, .v 20, .v 21, .v 22, .v 23, .v 24, .v 25, .v 26, .v 27, .v 28, .v 29, .v 30, .v 31, .v 32, .v 33, .v 34, .v 35, .v 36, .v 37, .v 38, .v 39, .v 40, .v 41, .v 42, .v 43, .v 44, .v 45, .v 46, .v 47, .v 48] 82, .bin 84 .rem .i64 (.v 0) (.l 8), .idx 84 1000000, .shv 85 false .u8 (.v 83) 84, .bin 86 .and .u8 (.v 85) (.l 1), .cmp 87 .eql (.v 86) (.l 1), .cond 87 true, .need 83 [[.v 66, .v 67, .v 68, .v 69, .v 70, .v 71, .v 72, .v 73, .v 74, .v 75, .v 76, .v 77, .v 78, .v 79, .v 80, .v 81], [.v 1, .v 2, .v 3, .v 4, .v 5, .v 6, .v 7, .v 8, .v 9, .v 10, .v 11, .v 12, .v 13, .v 14, .v 15, .v 16]], .call 88 83 [[.v 66, .v 67, .v 68, .v 69, .v 70, .v 71, .v 72, .v 73, .v 74, .v 75, .v 76, .v 77, .v 78, .v 79, .v 80, .v 81], [.v 1, .v 2, .v 3, .v 4, .v 5, .v 6, .v 7, .v 8, .v 9, .v 10, .v 11, .v 12, .v 13, .v 14, .v 15, .v 16]] 16, .bin 104 .sub .i64 (.v 0) (.l 1)] [.v 104, .v 1, .v 2, .v 3, .v 4, .v 5, .v 6, .v 7, .v 8, .v 9, .v 10, .v 11, .v 12, .v 13, .v 14, .v 15, .v 16, .v 17, .v 18, .v 19, .v 20, .v 21, .v 22, .v 23, .v 24, .v 25, .v 26, .v 27, .v 28, .v 29, .v 30, .v 31, .v 32, .v 33, .v 34, .v 35, .v 36, .v 37, .v 38, .v 39, .v 40, .v 41, .v 42, .v 43, .v 44, .v 45, .v 46, .v 47, .v 48, .v 88, .v 89, .v 90, .v 91, .v 92, .v 93, .v 94, .v 95, .v 96, .v 97, .v 98, .v 99, .v 100, .v 101, .v 102, .v 103] = true := by kernel_rfl
    rw [hb] at hk
    refine ⟨.normal, _, RoundEnd.of (e := none) hk fun ρ hρ hd => ?_, .inl ⟨rfl, pt_after hn i3 bA dN (congrArg qL hstep).symm rfl⟩⟩
    have hρ : ∀ i, i < 65 → ρ i = ρT i := hρ
    have r0 : ρ 0 = (n : Int) := by rw [hρ 0 (by decide), hn]
    have sm : seg ρ 1 48 = seg ρ0 1 48 := (seg_congr fun i hi => hρ _ (by omega)).trans i1
    obtain ⟨sa, sn⟩ := psplit48 sm
    have so : seg ρ 49 16 = qL O := (seg_congr fun i hi => hρ _ (by omega)).trans i4
    simp only [D_nil, D_add, D_sub, D_mul, D_and, D_or, D_xor, D_shl, D_shr, D_andNot, D_quo, D_rem, D_add_i64, D_sub_i64, D_mul_i64, D_add_u32, D_sub_u32, D_mul_u32, D_add_u8, D_sub_u8, D_mul_u8, D_eql, D_neq, D_lss, D_leq, D_gtr, D_geq, D_not, D_conv, D_eqs, D_call, D_cond, D_need, D_idx, D_sel, D_upd, D_shv, D_beq, List.map_cons, List.map_nil, Ref.den, r0] at hd
    obtain ⟨h65, h66, h82, h83, h84, h85, h86, h87, h88, h104, -⟩ := hd
    have e82 : ρ 82 = (n : Int) / 8 := i_quo 8 (by decide) (by omega) (by omega) rfl h82
    have e84 : ρ 84 = (n : Int) % 8 := i_rem 8 (by decide) (by omega) rfl h84
    have e83 : ρ 83 = (seg ρ0 17 32).getD (n / 8) 0 := by
      have h : ρ 83 = (seg ρ 17 32).getD (ρ 82).toNat 0 := h83
      rw [h, sn, e82, show ((n : Int) / 8).toNat = n / 8 by omega]
    have e86 := shv_r (n % 8) (by show n % 8 ≤ 8; omega) h85 (by rw [e84]; omega)
    have e87 := k_and 1 (by decide) rfl h86
    rw [show (2 : Int) ^ 1 = 2 by decide] at e87
    have hbit := bit_of (w := 8) (l := seg ρ0 17 32) (i := n / 8) (r := n % 8) (by rw [peight]; exact dN) (by rw [seg_len]; omega) (by omega)
    rw [peight, show 8 * (n / 8) + n % 8 = n by omega] at hbit
    have e87' : ρ 86 = dv 256 (seg ρ0 17 32) / 2 ^ n % 2 := by rw [e87, e86, e83, hbit]
    have k65 := bit_true h65 (decide_eq_true (show (0 : Int) ≤ n by omega))
    have s66 : seg ρ 66 16 = qL (plusQ O O) := by
      have := seg_of (ρ := ρ) (n := 66) (g := qL (plusQ (Lq (seg ρ 49 16)) (Lq (seg ρ 49 16)))) h66 (qL_len _)
      rw [so, Lq_qL bO] at this; exact this
    have k87 := bit_true h87 (decide_eq_true (e87'.trans hbt))
    have s88 : seg ρ 88 16 = qL (plusQ (plusQ O O) (Lq (seg ρ0 1 16))) := by
      have := seg_of (ρ := ρ) (n := 88) (g := qL (plusQ (Lq (seg ρ 66 16)) (Lq (seg ρ 1 16)))) h88 (qL_len _)
      rw [s66, sa, Lq_qL (plusQ_bd bO bO)] at this; exact this
    refine ⟨?_, fun i hi => ?_⟩
    · simp only [G_nil, G_bin, G_cmp, G_not, G_conv, G_eqs, G_call, G_cond, G_need, G_idx, G_sel, G_upd, G_shv, G_beq, List.map_cons, List.map_nil, Ref.den, r0]
      refine ⟨k65, trivial, ⟨?_, ?_⟩, ⟨?_, ?_⟩, k87, trivial, trivial⟩
      · omega
      · omega
      · omega
      · omega
    · show ([ρ 104] ++ (seg ρ 1 48 ++ seg ρ 88 16)).getD i 0 = _
      rw [s88, sm, show ρ 104 = ρT 0 - 1 by rw [h104, IntKind.wrap_i64]; omega]
  · rw [if_neg hbt] at hstep
    have hk : roundB Try.prog PT2 300 5 (loopAt 0 ptB) ptT [true,false] none [.cmp 65 .geq (.v 0) (.l 0), .cond 65 true, .need 83 [[.v 49, .v 50, .v 51, .v 52, .v 53, .v 54, .v 55, .v 56, .v 57, .v 58, .v 59, .v 60, .v 61, .v 62, .v 63, .v 64], [.v 49, .v 50, .v 51, .v 52, .v 53, .v 54, .v 55, .v 56, .v 57, .v 58, .v 59, .v 60, .v 61, .v 62, .v 63, .v 64]], .call 66 83 [[.v 49, .v 50, .v 51, .v 52, .v 53, .v 54, .v 55, .v 56, .v 57, .v 58, .v 59, .v 60, .v 61, .v 62, .v 63, .v 64], [.v 49, .v 50, .v 51, .v 52, .v 53, .v 54, .v 55, .v 56, .v 57, .v 58, .v 59, .v 60, .v 61, .v 62, .v 63, .v 64]] 16, .bin 82 .quo .i64 (.v 0) (.l 8), .idx 82 32, .sel 83 [.v 17, .v 18, .v 19, .v 20, .v 21, .v 22, .v 23, .v 24, .v 25, .v 26, .v 27, .v 28, .v 29, .v 30, .v 31, .v 32, .v 33, .v 34, .v 35, .v 36, .v 37, .v 38, .v 39, .v 40, .v 41, .v 42, .v 43, .v 44, .v 45, .v 46, .v 47, .v 48] 82, .bin 84 .rem .i64 (.v 0) (.l 8), .idx 84 1000000, .shv 85 false .u8 (.v 83) 84, .bin 86 .and .u8 (.v 85) (.l 1), .cmp 87 .eql (.v 86) (.l 1), .cond 87 false, .bin 88 .sub .i64 (.v 0) (.l 1)] [.v 88, .v 1, .v 2, .v 3, .v 4, .v 5, .v 6, .v 7, .v 8, .v 9, .v 10, .v 11, .v 12, .v 13, .v 14, .v 15, .v 16, .v 17, .v 18, .v 19, .v 20, .v 21, .v 22, .v 23, .v 24, .v 25, .v 26, .v 27, .v 28, .v 29, .v 30, .v 31, .v 32, .v 33, .v 34, .v 35, .v 36, .v 37, .v 38, .v 39, .v 40, .v 41, .v 42, .v 43, .v 44, .v 45, .v 46, .v 47, .v 48, .v 66, .v 67, .v 68, .v 69, .v 70, .v 71, .v 72, .v 73, .v 74, .v 75, .v 76, .v 77, .v 78, .v 79, .v 80, .v 81] = true := by kernel_rfl
    rw [hb] at hk
    refine ⟨.normal, _, RoundEnd.of (e := none) hk fun ρ hρ hd => ?_, .inl ⟨rfl, pt_after hn i3 bA dN (congrArg qL hstep).symm rfl⟩⟩
    have hρ : ∀ i, i < 65 → ρ i = ρT i := hρ
    have r0 : ρ 0 = (n : Int) := by rw [hρ 0 (by decide), hn]
    have sm : seg ρ 1 48 = seg ρ0 1 48 := (seg_congr fun i hi => hρ _ (by omega)).trans i1
    obtain ⟨sa, sn⟩ := psplit48 sm
    have so : seg ρ 49 16 = qL O := (seg_congr fun i hi => hρ _ (by omega)).trans i4
    simp only [D_nil, D_add, D_sub, D_mul, D_and, D_or, D_xor, D_shl, D_shr, D_andNot, D_quo, D_rem, D_add_i64, D_sub_i64, D_mul_i64, D_add_u32, D_sub_u32, D_mul_u32, D_add_u8, D_sub_u8, D_mul_u8, D_eql, D_neq, D_lss, D_leq, D_gtr, D_geq, D_not, D_conv, D_eqs, D_call, D_cond, D_need, D_idx, D_sel, D_upd, D_shv, D_beq, List.map_cons, List.map_nil, Ref.den, r0] at hd
    obtain ⟨h65, h66, h82, h83, h84, h85, h86, h87, h88, -⟩ := hd
    have e82 : ρ 82 = (n : Int) / 8 := i_quo 8 (by decide) (by omega) (by omega) rfl h82
    have e84 : ρ 84 = (n : Int) % 8 := i_rem 8 (by decide) (by omega) rfl h84
    have e83 : ρ 83 = (seg ρ0 17 32).getD (n / 8) 0 := by
      have h : ρ 83 = (seg ρ 17 32).getD (ρ 82).toNat 0 := h83
      rw [h, sn, e82, show ((n : Int) / 8).toNat = n / 8 by omega]
    have e86 := shv_r (n % 8) (by show n % 8 ≤ 8; omega) h85 (by rw [e84]; omega)
    have e87 := k_and 1 (by decide) rfl h86
    rw [show (2 : Int) ^ 1 = 2 by decide] at e87
    have hbit := bit_of (w := 8) (l := seg ρ0 17 32) (i := n / 8) (r := n % 8) (by rw [peight]; exact dN) (by rw [seg_len]; omega) (by omega)
    rw [peight, show 8 * (n / 8) + n % 8 = n by omega] at hbit
    have e87' : ρ 86 = dv 256 (seg ρ0 17 32) / 2 ^ n % 2 := by rw [e87, e86, e83, hbit]
    have k65 := bit_true h65 (decide_eq_true (show (0 : Int) ≤ n by omega))
    have s66 : seg ρ 66 16 = qL (plusQ O O) := by
      have := seg_of (ρ := ρ) (n := 66) (g := qL (plusQ (Lq (seg ρ 49 16)) (Lq (seg ρ 49 16)))) h66 (qL_len _)
      rw [so, Lq_qL bO] at this; exact this
    have k87 := bit_false h87 (decide_eq_false fun q => hbt (e87'.symm.trans q))
    refine ⟨?_, fun i hi => ?_⟩
    · simp only [G_nil, G_bin, G_cmp, G_not, G_conv, G_eqs, G_call, G_cond, G_need, G_idx, G_sel, G_upd, G_shv, G_beq, List.map_cons, List.map_nil, Ref.den, r0]
      refine ⟨k65, trivial, ⟨?_, ?_⟩, ⟨?_, ?_⟩, k87, trivial⟩
      · omega
      · omega
      · omega
      · omega
    · show ([ρ 88] ++ (seg ρ 1 48 ++ seg ρ 66 16)).getD i 0 = _
      rw [s66, sm, show ρ 88 = ρT 0 - 1 by rw [h88, IntKind.wrap_i64]; omega]
theorem pt_end {cl : Code} (hb : loopAt 0 ptB = some cl) {ρ0 ρT : Nat → Int} (hI : ptI ρ0 ρT) (hlt : ¬ 0 ≤ ρT 0) :
    ∃ e x', RoundEnd Try.prog pfns (callN Try.prog PT2 300 5) 300 cl ptT.slT ptT.memT ptT.m ρT e x' ∧ ((e = .normal ∧ ptI ρ0 x' ∧ (x' 0 + 1).toNat < (ρT 0 + 1).toNat) ∨ (e = .exit ptT.xid ∧ ∀ i, i < ptT.m → x' i = (pfns.g ptT.j [xs ptT.m ρ0]).getD i 0)) := by
  obtain ⟨i1, i2, i3, bA, dN, i4⟩ := hI
  have hk : roundB Try.prog PT2 300 5 (loopAt 0 ptB) ptT [false] (some 0) [.cmp 65 .geq (.v 0) (.l 0), .cond 65 false] [.v 0, .v 1, .v 2, .v 3, .v 4, .v 5, .v 6, .v 7, .v 8, .v 9, .v 10, .v 11, .v 12, .v 13, .v 14, .v 15, .v 16, .v 17, .v 18, .v 19, .v 20, .v 21, .v 22, .v 23, .v 24, .v 25, .v 26, .v 27, .v 28, .v 29, .v 30, .v 31, .v 32, .v 33, .v 34, .v 35, .v 36, .v 37, .v 38, .v 39, .v 40, .v 41, .v 42, .v 43, .v 44, .v 45, .v 46, .v 47, .v 48, .v 49, .v 50, .v 51, .v 52, .v 53, .v 54, .v 55, .v 56, .v 57, .v 58, .v 59, .v 60, .v 61, .v 62, .v 63, .v 64] = true := by kernel_rfl
  rw [hb] at hk
  refine ⟨.exit 0, ρT, RoundEnd.of (e := some 0) hk fun ρ hρ hd => ?_, .inr ⟨rfl, fun i hi => ?_⟩⟩
  · have r0 : ρ 0 = ρT 0 := hρ 0 (by decide)
    simp only [D_nil, D_add, D_sub, D_mul, D_and, D_or, D_xor, D_shl, D_shr, D_andNot, D_quo, D_rem, D_add_i64, D_sub_i64, D_mul_i64, D_add_u32, D_sub_u32, D_mul_u32, D_add_u8, D_sub_u8, D_mul_u8, D_eql, D_neq, D_lss, D_leq, D_gtr, D_geq, D_not, D_conv, D_eqs, D_call, D_cond, D_need, D_idx, D_sel, D_upd, D_shv, D_beq, List.map_cons, List.map_nil, Ref.den, r0] at hd
    obtain ⟨h65, -⟩ := hd
    have k65 := bit_false h65 (decide_eq_false hlt)
    refine ⟨by simp only [G_nil, G_bin, G_cmp, G_not, G_conv, G_eqs, G_call, G_cond, G_need, G_idx, G_sel, G_upd, G_shv, G_beq, List.map_cons, List.map_nil, Ref.den]; exact ⟨k65, trivial⟩, fun i hi => ?_⟩
    show ([ρ 0] ++ (seg ρ 1 48 ++ seg ρ 49 16)).getD i 0 = _
    rw [← pt_get ρ hi, hρ i hi]
  · have hi : i < 65 := hi
    have e1 : ρT 0 = -1 := by omega
    show ρT i = (-1 :: (((Go.Sx.xs 65 ρ0).drop 1).take 48 ++ qL (mulQ (Lq (((Go.Sx.xs 65 ρ0).drop 1).take 16)) (dv 256 (((Go.Sx.xs 65 ρ0).drop 17).take 32)) 256))).getD i 0
    rw [xs_drop (by omega), xs_drop (by omega), xs_drop (by omega), pt_get ρT hi, e1, i1, i4, e1]
    rfl
theorem okSTimes : CtrOK Try.prog pfns cSTimes := by
  refine CtrOK.ofL (t := ptT) (k := 0) (fn := Try.f49) (body := ptB) okPT2 mixed (lf := 300) (d := 5) (by kernel_rfl) (by kernel_rfl) ?_ rfl fun w vs xs ha hp => ?_
  · intro cl hcl
    refine ⟨ptI, fun ρ => (ρ 0 + 1).toNat, fun ρ0 hT hp => ?_, fun ρ0 ρT hT hI => ?_⟩
    · have hp : (Go.Sx.xs 65 ρ0).getD 0 0 = 255 ∧ ((Go.Sx.xs 65 ρ0).drop 49).take 16 = sp0 := hp
      rw [xs_get (by omega), xs_drop (by omega)] at hp
      obtain ⟨p1, p2⟩ := hp
      exact ⟨rfl, by omega, by omega, pt_bd hT, pt_dig hT, by rw [p1, p2]; show sp0 = qL ⟨0, 1, 1, 0⟩; decide⟩
    · by_cases h : 0 ≤ ρT 0
      · exact pt_go hcl hI h
      · exact pt_end hcl hI h
  · obtain ⟨v, u, a, b, rfl, rfl, ⟨la, -, ia⟩, ⟨lb, -, ib⟩⟩ := open2 ha
    refine WayL.of (dec := []) (fs := [.need 98 [[.l 255, .v 0, .v 1, .v 2, .v 3, .v 4, .v 5, .v 6, .v 7, .v 8, .v 9, .v 10, .v 11, .v 12, .v 13, .v 14, .v 15, .v 16, .v 17, .v 18, .v 19, .v 20, .v 21, .v 22, .v 23, .v 24, .v 25, .v 26, .v 27, .v 28, .v 29, .v 30, .v 31, .v 32, .v 33, .v 34, .v 35, .v 36, .v 37, .v 38, .v 39, .v 40, .v 41, .v 42, .v 43, .v 44, .v 45, .v 46, .v 47, .l 0, .l 0, .l 0, .l 0, .l 1, .l 0, .l 0, .l 0, .l 1, .l 0, .l 0, .l 0, .l 0, .l 0, .l 0, .l 0]], .call 48 98 [[.l 255, .v 0, .v 1, .v 2, .v 3, .v 4, .v 5, .v 6, .v 7, .v 8, .v 9, .v 10, .v 11, .v 12, .v 13, .v 14, .v 15, .v 16, .v 17, .v 18, .v 19, .v 20, .v 21, .v 22, .v 23, .v 24, .v 25, .v 26, .v 27, .v 28, .v 29, .v 30, .v 31, .v 32, .v 33, .v 34, .v 35, .v 36, .v 37, .v 38, .v 39, .v 40, .v 41, .v 42, .v 43, .v 44, .v 45, .v 46, .v 47, .l 0, .l 0, .l 0, .l 0, .l 1, .l 0, .l 0, .l 0, .l 1, .l 0, .l 0, .l 0, .l 0, .l 0, .l 0, .l 0]] 65]) (refs := [.v 97, .v 98, .v 99, .v 100, .v 101, .v 102, .v 103, .v 104, .v 105, .v 106, .v 107, .v 108, .v 109, .v 110, .v 111, .v 112]) (by kernel_rfl) fun ρ hρ hd => ?_
    have ea : seg ρ 0 16 = a := seg_of (fun i hi => by
      rw [Nat.zero_add, hρ i (by show i < 48; omega)]
      simp only [flat, List.flatten_cons, List.flatten_nil, List.append_nil, List.getD_eq_getElem?_getD]
      rw [List.getElem?_append_left (by omega)]) la
    have eb : seg ρ 16 32 = b := seg_of (fun i hi => by
      rw [hρ (16 + i) (by show 16 + i < 48; omega)]
      simp only [flat, List.flatten_cons, List.flatten_nil, List.append_nil, List.getD_eq_getElem?_getD]
      rw [List.getElem?_append_right (by omega), la, Nat.add_sub_cancel_left]) lb
    simp only [D_nil, D_add, D_sub, D_mul, D_and, D_or, D_xor, D_shl, D_shr, D_andNot, D_quo, D_rem, D_add_i64, D_sub_i64, D_mul_i64, D_add_u32, D_sub_u32, D_mul_u32, D_add_u8, D_sub_u8, D_mul_u8, D_eql, D_neq, D_lss, D_leq, D_gtr, D_geq, D_not, D_conv, D_eqs, D_call, D_cond, D_need, D_idx, D_sel, D_upd, D_shv, D_beq, List.map_cons, List.map_nil, Ref.den] at hd
    obtain ⟨h48, -⟩ := hd
    have s48 : ∀ i, i < 65 → ρ (48 + i) = ([-1] ++ ((seg ρ 0 16 ++ seg ρ 16 32) ++ qL (mulQ (Lq (seg ρ 0 16)) (dv 256 (seg ρ 16 32)) 256))).getD i 0 := fun i hi => h48 i hi
    rw [ea, eb] at s48
    refine ⟨?_, ?_⟩
    · simp only [G_nil, G_bin, G_cmp, G_not, G_conv, G_eqs, G_call, G_cond, G_need, G_idx, G_sel, G_upd, G_shv, G_beq, List.map_cons, List.map_nil, Ref.den]
      exact ⟨⟨rfl, rfl⟩, trivial⟩
    · show seg ρ 97 16 = qL (mulQ (Lq a) (dv 256 b) 256)
      have l2 : (a ++ b).length = 48 := by rw [List.length_append]; omega
      have := seg_end [-1] (a ++ b) (qL (mulQ (Lq a) (dv 256 b) 256))
      rw [l2, qL_len] at this
      rw [← this]
      exact seg_congr fun i hi => by rw [show 97 + i = 48 + (49 + i) by omega]; exact s48 _ (by omega)
end Go.Proofs.Ytfobnajgnnccmaa

namespace Go.Bx
theorem u8_and : ∀ n : Fin 256, Go.Sx.binZ .and .u8 (n.val : Int) 128 = some (if 128 ≤ n.val then 128 else 0) := by decide +kernel
theorem u8_andNot : ∀ n : Fin 256, Go.Sx.binZ .andNot .u8 (n.val : Int) 128 = some ((n.val % 128 : Nat) : Int) := by decide +kernel
theorem u8_or : ∀ n : Fin 256, n.val < 128 → Go.Sx.binZ .or .u8 (n.val : Int) 128 = some ((n.val + 128 : Nat) : Int) := by decide +kernel
theorem u8_xor : ∀ n : Fin 256, Go.Sx.binZ .xor .u8 (n.val : Int) 128 = some (((n.val + 128) % 256 : Nat) : Int) := by decide +kernel
theorem byteN {x : Int} (h : 0 ≤ x ∧ x < 256) : ∃ n : Fin 256, x = (n.val : Int) := ⟨⟨x.toNat, by omega⟩, by simp; omega⟩
theorem and128 {x z : Int} (hx : 0 ≤ x ∧ x < 256) (h : Go.Sx.binZ .and .u8 x 128 = some z) : z = if 128 ≤ x then 128 else 0 := by
  obtain ⟨n, rfl⟩ := byteN hx
  rw [u8_and] at h
  have := Option.some.inj h
  by_cases c : 128 ≤ n.val
  · rw [if_pos c] at this; rw [if_pos (by omega)]; exact this.symm
  · rw [if_neg c] at this; rw [if_neg (by omega)]; exact this.symm
theorem andNot128 {x z : Int} (hx : 0 ≤ x ∧ x < 256) (h : Go.Sx.binZ .andNot .u8 x 128 = some z) : z = x % 128 := by
  obtain ⟨n, rfl⟩ := byteN hx
  rw [u8_andNot] at h
  have := Option.some.inj h
  omega
theorem or128 {x z : Int} (hx : 0 ≤ x ∧ x < 128) (h : Go.Sx.binZ .or .u8 x 128 = some z) : z = x + 128 := by
  obtain ⟨n, rfl⟩ := byteN (x := x) (by omega)
  rw [u8_or n (by omega)] at h
  have := Option.some.inj h
  omega
theorem xor128 {x z : Int} (hx : 0 ≤ x ∧ x < 256) (h : Go.Sx.binZ .xor .u8 x 128 = some z) : z = (x + 128) % 256 := by
  obtain ⟨n, rfl⟩ := byteN hx
  rw [u8_xor] at h
  have := Option.some.inj h
  omega
theorem H31 : (256 : Int) ^ 31 * 128 = H255 ∧ (0 : Int) < 256 ^ 31 := by decide
theorem dv_last (l : List Int) (x : Int) : dv 256 (l ++ [x]) = dv 256 l + 256 ^ l.length * x := by
  rw [dv_append]; simp [dv]
end Go.Bx
namespace Go.Proofs.Ytfobnajgnnccmaa
open Go.RowKit Go.Bx Go.Sx
set_option linter.unusedSimpArgs false
set_option linter.unusedVariables false
theorem fv {l : List Int} {A : Int} (s : l = dg MM 4 (powZ A (PP - 2) 256)) (ha : 0 ≤ A ∧ A < WW) : dv MM l = powZ A (PP - 2) 256 ∧ (0 ≤ dv MM l ∧ dv MM l < WW) := by
  have b := powZ_bd (N := PP - 2) ha.1 ha.2 256
  have e : dv MM l = powZ A (PP - 2) 256 := by rw [s, dvW b.1 b.2]
  exact ⟨e, by rw [e]; exact b⟩
theorem fn {l : List Int} {A : Int} (s : l = dg MM 4 (A % PP)) : dv MM l = A % PP ∧ (0 ≤ dv MM l ∧ dv MM l < WW) := by
  have b := modB A
  have e : dv MM l = A % PP := by rw [s, dvW b.1 b.2]
  exact ⟨e, by rw [e]; exact b⟩
/-- The last byte apart. -/
theorem last_split {ρ : Nat → Int} {o : Nat} {A : Int} (hA : dv 256 (seg ρ o 32) = A) (hd : Dig 256 (seg ρ o 32)) : dv 256 (seg ρ o 31) + 256 ^ 31 * ρ (o + 31) = A ∧ (0 ≤ dv 256 (seg ρ o 31) ∧ dv 256 (seg ρ o 31) < 256 ^ 31) ∧ (0 ≤ ρ (o + 31) ∧ ρ (o + 31) < 256) ∧ Dig 256 (seg ρ o 31) := by
  have e : seg ρ o 32 = seg ρ o 31 ++ [ρ (o + 31)] := pseg_sp ρ o 31 1
  rw [e] at hd
  have d1 : Dig 256 (seg ρ o 31) := ⟨fun x hx => hd.d x (List.mem_append_left _ hx)⟩
  have b1 := dv_bound (by decide : (0 : Int) < 256) d1
  rw [seg_len] at b1
  rw [e, dv_last, seg_len] at hA
  exact ⟨hA, b1, hd.d _ (by simp), d1⟩
def cSWord : Ctr := ⟨39, 86, [.arr .u64 16], [.arr .u8 32]⟩
theorem okSWord : CtrOK Try.prog pfns cSWord := by
  refine CtrOK.of okPT1 mixed (lf := 300) (d := 5) rfl fun w vs xs ha _ => ?_
  obtain ⟨v, a, rfl, rfl, ⟨la, -, ia⟩⟩ := open1 ha
  have hA := Lq_bd la ia
  have ax : 0 ≤ affX (Lq a) ∧ affX (Lq a) < PP := rmod _
  have ay : 0 ≤ affY (Lq a) ∧ affY (Lq a) < PP := rmod _
  have esg : pfns.g cSWord.j [a] = dg 256 32 (affY (Lq a) + H255 * (affX (Lq a) % 2)) := rfl
  rw [esg]
  have hP := PP_lt
  have hH := H255_lt
  have h31 := H31
  by_cases c : affX (Lq a) % 2 = 1
  · refine Go.Sx.Way.of (dec := [true]) (fs := [.need 79 [[.v 8, .v 9, .v 10, .v 11]], .call 16 79 [[.v 8, .v 9, .v 10, .v 11]] 4, .need 18 [[.v 0, .v 1, .v 2, .v 3], [.v 16, .v 17, .v 18, .v 19]], .call 20 18 [[.v 0, .v 1, .v 2, .v 3], [.v 16, .v 17, .v 18, .v 19]] 4, .need 12 [[.v 20, .v 21, .v 22, .v 23]], .call 24 12 [[.v 20, .v 21, .v 22, .v 23]] 4, .need 18 [[.v 4, .v 5, .v 6, .v 7], [.v 16, .v 17, .v 18, .v 19]], .call 28 18 [[.v 4, .v 5, .v 6, .v 7], [.v 16, .v 17, .v 18, .v 19]] 4, .need 12 [[.v 28, .v 29, .v 30, .v 31]], .call 32 12 [[.v 28, .v 29, .v 30, .v 31]] 4, .need 13 [[.v 32, .v 33, .v 34, .v 35]], .call 36 13 [[.v 32, .v 33, .v 34, .v 35]] 32, .bin 68 .and .u64 (.v 24) (.l 1), .cmp 69 .eql (.v 68) (.l 1), .cond 69 true, .bin 70 .or .u8 (.v 67) (.l 128)]) (refs := [.v 36, .v 37, .v 38, .v 39, .v 40, .v 41, .v 42, .v 43, .v 44, .v 45, .v 46, .v 47, .v 48, .v 49, .v 50, .v 51, .v 52, .v 53, .v 54, .v 55, .v 56, .v 57, .v 58, .v 59, .v 60, .v 61, .v 62, .v 63, .v 64, .v 65, .v 66, .v 70]) (by kernel_rfl) fun ρ hρ hd => ?_
    have ea := seg0 la hρ
    rw [← ea] at hA
    have b0 : 0 ≤ dv MM (seg ρ 0 4) ∧ dv MM (seg ρ 0 4) < WW := hA.1
    have b4 : 0 ≤ dv MM (seg ρ 4 4) ∧ dv MM (seg ρ 4 4) < WW := hA.2.1
    have b8 : 0 ≤ dv MM (seg ρ 8 4) ∧ dv MM (seg ρ 8 4) < WW := hA.2.2.1
    have eL : Lq a = ⟨dv MM (seg ρ 0 4), dv MM (seg ρ 4 4), dv MM (seg ρ 8 4), dv MM (seg ρ 12 4)⟩ := by rw [← ea]; rfl
    simp only [D_nil, D_add, D_sub, D_mul, D_and, D_or, D_xor, D_shl, D_shr, D_andNot, D_quo, D_rem, D_add_i64, D_sub_i64, D_mul_i64, D_add_u32, D_sub_u32, D_mul_u32, D_add_u8, D_sub_u8, D_mul_u8, D_eql, D_neq, D_lss, D_leq, D_gtr, D_geq, D_not, D_conv, D_eqs, D_call, D_cond, D_need, D_idx, D_sel, D_upd, D_shv, D_beq, List.map_cons, List.map_nil, Ref.den] at hd
    obtain ⟨h16, h20, h24, h28, h32, h36, h68, h69, h70, -⟩ := hd
    have s16 : seg ρ 16 4 = dg MM 4 (powZ (dv MM (seg ρ 8 4)) (PP - 2) 256) := seg_of h16 (dg_len _ _ _)
    obtain ⟨e16, b16⟩ := fv s16 b8
    have s20 : seg ρ 20 4 = dg MM 4 (timesZ (dv MM (seg ρ 0 4)) (dv MM (seg ρ 16 4))) := seg_of h20 (dg_len _ _ _)
    obtain ⟨e20, b20⟩ := ft s20 b0 b16
    have s24 : seg ρ 24 4 = dg MM 4 (dv MM (seg ρ 20 4) % PP) := seg_of h24 (dg_len _ _ _)
    obtain ⟨e24, b24⟩ := fn s24
    have s28 : seg ρ 28 4 = dg MM 4 (timesZ (dv MM (seg ρ 4 4)) (dv MM (seg ρ 16 4))) := seg_of h28 (dg_len _ _ _)
    obtain ⟨e28, b28⟩ := ft s28 b4 b16
    have s32 : seg ρ 32 4 = dg MM 4 (dv MM (seg ρ 28 4) % PP) := seg_of h32 (dg_len _ _ _)
    obtain ⟨e32, b32⟩ := fn s32
    have s36 : seg ρ 36 32 = dg 256 32 (dv MM (seg ρ 32 4) % PP) := seg_of h36 (dg_len _ _ _)
    have f24 : dv MM (seg ρ 24 4) = affX (Lq a) := by rw [e24, e20, e16, eL]; rfl
    have f32 : dv MM (seg ρ 32 4) = affY (Lq a) := by rw [e32, e28, e16, eL]; rfl
    rw [f32, Int.emod_eq_of_lt ay.1 ay.2] at s36
    have f0 : ρ 24 = affX (Lq a) % MM := by
      have := congrArg (fun l => l.getD 0 0) s24
      rw [← e24, f24] at this
      exact this
    have f68 : ρ 68 = affX (Lq a) % 2 := by
      rw [u_and 1 (by decide) (by rw [f0]; unfold MM; omega) (by rw [f0]; unfold MM; omega) rfl h68, f0]
      unfold MM; omega
    have g69 : ρ 69 = b2i (decide (affX (Lq a) % 2 = 1)) := h69.trans (b2i_congr (by rw [f68]))
    have dY : Dig 256 (seg ρ 36 32) := by rw [s36]; exact dg_dig (by decide) _ _
    have vY : dv 256 (seg ρ 36 32) = affY (Lq a) := by rw [s36]; exact dv_dg_of (by decide) ay.1 (by omega)
    obtain ⟨l1, l2, l3, l4⟩ := last_split vY dY
    have l1 : dv 256 (seg ρ 36 31) + 256 ^ 31 * ρ 67 = affY (Lq a) := l1
    have l3 : 0 ≤ ρ 67 ∧ ρ 67 < 256 := l3
    generalize affY (Lq a) = Y at *
    generalize affX (Lq a) = X at *
    have k69 := bit_true g69 (decide_eq_true c)
    have hlt : ρ 67 < 128 := by
      rcases Int.lt_or_le (ρ 67) 128 with h | h
      · exact h
      · have : 256 ^ 31 * 128 ≤ 256 ^ 31 * ρ 67 := Int.mul_le_mul_of_nonneg_left h (by omega)
        omega
    have e70 := or128 ⟨l3.1, hlt⟩ h70
    refine ⟨by simp only [G_nil, G_bin, G_cmp, G_not, G_conv, G_eqs, G_call, G_cond, G_need, G_idx, G_sel, G_upd, G_shv, G_beq, List.map_cons, List.map_nil, Ref.den]; exact ⟨trivial, trivial, trivial, trivial, trivial, trivial, k69, trivial⟩, ?_⟩
    show seg ρ 36 31 ++ [ρ 70] = _
    refine dg_eq (by decide) (by rw [List.length_append, seg_len]; rfl) ⟨fun x hx => ?_⟩ ?_
    · rcases List.mem_append.1 hx with hx | hx
      · exact l4.d x hx
      · rcases List.mem_singleton.1 hx with rfl
        rw [e70]; omega
    · rw [dv_last, seg_len, e70, c, ← h31.1]
      rw [← l1, Int.mul_add]; omega
  · refine Go.Sx.Way.of (dec := [false]) (fs := [.need 79 [[.v 8, .v 9, .v 10, .v 11]], .call 16 79 [[.v 8, .v 9, .v 10, .v 11]] 4, .need 18 [[.v 0, .v 1, .v 2, .v 3], [.v 16, .v 17, .v 18, .v 19]], .call 20 18 [[.v 0, .v 1, .v 2, .v 3], [.v 16, .v 17, .v 18, .v 19]] 4, .need 12 [[.v 20, .v 21, .v 22, .v 23]], .call 24 12 [[.v 20, .v 21, .v 22, .v 23]] 4, .need 18 [[.v 4, .v 5, .v 6, .v 7], [.v 16, .v 17, .v 18, .v 19]], .call 28 18 [[.v 4, .v 5, .v 6, .v 7], [.v 16, .v 17, .v 18, .v 19]] 4, .need 12 [[.v 28, .v 29, .v 30, .v 31]], .call 32 12 [[.v 28, .v 29, .v 30, .v 31]] 4, .need 13 [[.v 32, .v 33, .v 34, .v 35]], .call 36 13 [[.v 32, .v 33, .v 34, .v 35]] 32, .bin 68 .and .u64 (.v 24) (.l 1), .cmp 69 .eql (.v 68) (.l 1), .cond 69 false]) (refs := [.v 36, .v 37, .v 38, .v 39, .v 40, .v 41, .v 42, .v 43, .v 44, .v 45, .v 46, .v 47, .v 48, .v 49, .v 50, .v 51, .v 52, .v 53, .v 54, .v 55, .v 56, .v 57, .v 58, .v 59, .v 60, .v 61, .v 62, .v 63, .v 64, .v 65, .v 66, .v 67]) (by kernel_rfl) fun ρ hρ hd => ?_
    have ea := seg0 la hρ
    rw [← ea] at hA
    have b0 : 0 ≤ dv MM (seg ρ 0 4) ∧ dv MM (seg ρ 0 4) < WW := hA.1
    have b4 : 0 ≤ dv MM (seg ρ 4 4) ∧ dv MM (seg ρ 4 4) < WW := hA.2.1
    have b8 : 0 ≤ dv MM (seg ρ 8 4) ∧ dv MM (seg ρ 8 4) < WW := hA.2.2.1
    have eL : Lq a = ⟨dv MM (seg ρ 0 4), dv MM (seg ρ 4 4), dv MM (seg ρ 8 4), dv MM (seg ρ 12 4)⟩ := by rw [← ea]; rfl
    simp only [D_nil, D_add, D_sub, D_mul, D_and, D_or, D_xor, D_shl, D_shr, D_andNot, D_quo, D_rem, D_add_i64, D_sub_i64, D_mul_i64, D_add_u32, D_sub_u32, D_mul_u32, D_add_u8, D_sub_u8, D_mul_u8, D_eql, D_neq, D_lss, D_leq, D_gtr, D_geq, D_not, D_conv, D_eqs, D_call, D_cond, D_need, D_idx, D_sel, D_upd, D_shv, D_beq, List.map_cons, List.map_nil, Ref.den] at hd
    obtain ⟨h16, h20, h24, h28, h32, h36, h68, h69, -⟩ := hd
    have s16 : seg ρ 16 4 = dg MM 4 (powZ (dv MM (seg ρ 8 4)) (PP - 2) 256) := seg_of h16 (dg_len _ _ _)
    obtain ⟨e16, b16⟩ := fv s16 b8
    have s20 : seg ρ 20 4 = dg MM 4 (timesZ (dv MM (seg ρ 0 4)) (dv MM (seg ρ 16 4))) := seg_of h20 (dg_len _ _ _)
    obtain ⟨e20, b20⟩ := ft s20 b0 b16
    have s24 : seg ρ 24 4 = dg MM 4 (dv MM (seg ρ 20 4) % PP) := seg_of h24 (dg_len _ _ _)
    obtain ⟨e24, b24⟩ := fn s24
    have s28 : seg ρ 28 4 = dg MM 4 (timesZ (dv MM (seg ρ 4 4)) (dv MM (seg ρ 16 4))) := seg_of h28 (dg_len _ _ _)
    obtain ⟨e28, b28⟩ := ft s28 b4 b16
    have s32 : seg ρ 32 4 = dg MM 4 (dv MM (seg ρ 28 4) % PP) := seg_of h32 (dg_len _ _ _)
    obtain ⟨e32, b32⟩ := fn s32
    have s36 : seg ρ 36 32 = dg 256 32 (dv MM (seg ρ 32 4) % PP) := seg_of h36 (dg_len _ _ _)
    have f24 : dv MM (seg ρ 24 4) = affX (Lq a) := by rw [e24, e20, e16, eL]; rfl
    have f32 : dv MM (seg ρ 32 4) = affY (Lq a) := by rw [e32, e28, e16, eL]; rfl
    rw [f32, Int.emod_eq_of_lt ay.1 ay.2] at s36
    have f0 : ρ 24 = affX (Lq a) % MM := by
      have := congrArg (fun l => l.getD 0 0) s24
      rw [← e24, f24] at this
      exact this
    have f68 : ρ 68 = affX (Lq a) % 2 := by
      rw [u_and 1 (by decide) (by rw [f0]; unfold MM; omega) (by rw [f0]; unfold MM; omega) rfl h68, f0]
      unfold MM; omega
    have g69 : ρ 69 = b2i (decide (affX (Lq a) % 2 = 1)) := h69.trans (b2i_congr (by rw [f68]))
    have dY : Dig 256 (seg ρ 36 32) := by rw [s36]; exact dg_dig (by decide) _ _
    have vY : dv 256 (seg ρ 36 32) = affY (Lq a) := by rw [s36]; exact dv_dg_of (by decide) ay.1 (by omega)
    obtain ⟨l1, l2, l3, l4⟩ := last_split vY dY
    have l1 : dv 256 (seg ρ 36 31) + 256 ^ 31 * ρ 67 = affY (Lq a) := l1
    have l3 : 0 ≤ ρ 67 ∧ ρ 67 < 256 := l3
    generalize affY (Lq a) = Y at *
    generalize affX (Lq a) = X at *
    have k69 := bit_false g69 (decide_eq_false c)
    refine ⟨by simp only [G_nil, G_bin, G_cmp, G_not, G_conv, G_eqs, G_call, G_cond, G_need, G_idx, G_sel, G_upd, G_shv, G_beq, List.map_cons, List.map_nil, Ref.den]; exact ⟨trivial, trivial, trivial, trivial, trivial, trivial, k69, trivial⟩, ?_⟩
    show seg ρ 36 32 = _
    rw [s36, show X % 2 = 0 by omega, Int.mul_zero, Int.add_zero]
theorem pg20 (a : List Int) : pfns.g 20 [a] = if timesZ (rootT (dv MM a)) (rootT (dv MM a)) % PP = dv MM a % PP then dg MM 4 (eroot (dv MM a)) ++ [1] else [0, 0, 0, 0, 0] := by rw [show pfns.g 20 = sfns.g 20 from rfl, sg20, eroot]
theorem eroot_bdW (A : Int) : 0 ≤ eroot A ∧ eroot A < WW := by have h := eroot_bd A; generalize eroot A = r at *; have := PP_lt; omega
theorem dg_one : dg MM 4 1 = [1, 0, 0, 0] := by decide
def cSRead : Ctr := ⟨40, 87, [.arr .u8 32], [.arr .u64 16, .bool]⟩
theorem okSRead : CtrOK Try.prog pfns cSRead := by
  refine CtrOK.of okPT1 mixed (lf := 300) (d := 5) rfl fun w vs xs ha _ => ?_
  obtain ⟨v, a, rfl, rfl, ⟨la, -, ia⟩⟩ := open1 ha
  have bA := bd32 la ia
  have dA : Dig 256 a := dig8 ia
  have hP := PP_lt
  have hH := H255_lt
  have h31 := H31
  obtain ⟨A, hA⟩ : ∃ A, A = dv 256 a := ⟨_, rfl⟩
  rw [← hA] at bA
  have esg : pfns.g cSRead.j [a] = if decOK A then qL (decQ A) ++ [1] else List.replicate 16 0 ++ [0] := by rw [hA]; rfl
  rw [esg]
  obtain ⟨Y, hY⟩ : ∃ Y, Y = A % H255 := ⟨_, rfl⟩
  have bY : 0 ≤ Y ∧ Y < WW := by rw [hY]; have := Int.emod_nonneg A (b := H255) (by omega); have := Int.emod_lt_of_pos A hH.1; omega
  have eO : decOK A ↔ Y < PP ∧ rtOK (argQ Y) ∧ ¬ (A / H255 = 1 ∧ eroot (argQ Y) = 0) := by rw [hY]; exact Iff.rfl
  have eX : decX A = if A / H255 = 1 then minZ 0 (eroot (argQ Y)) else eroot (argQ Y) := by rw [hY]; rfl
  have eQ : decQ A = ⟨decX A, Y, 1, timesZ (decX A) Y⟩ := by rw [hY]; rfl
  have bE := eroot_bdW (argQ Y)
  have start : ∀ ρ : Nat → Int, (∀ i, i < 32 → ρ i = flat [a] i) → ∀ z1 z2 : Int, binZ .and .u8 (ρ 31) 128 = some z1 → binZ .andNot .u8 (ρ 31) 128 = some z2 → (z1 ≠ 0 ↔ A / H255 = 1) ∧ dv 256 (seg ρ 0 31 ++ [z2]) = Y := by
    intro ρ hρ z1 z2 g1 g2
    have ea := seg0 la hρ
    obtain ⟨l1, l2, l3, l4⟩ := last_split (ρ := ρ) (o := 0) (A := A) (by rw [ea, hA]) (by rw [ea]; exact dA)
    simp only [Nat.zero_add] at l1 l3
    have e1 := and128 l3 g1
    have e2 := andNot128 l3 g2
    have hq : A / H255 = ρ 31 / 128 ∧ A % H255 = dv 256 (seg ρ 0 31) + 256 ^ 31 * (ρ 31 % 128) := by
      have hr : A = H255 * (ρ 31 / 128) + (dv 256 (seg ρ 0 31) + 256 ^ 31 * (ρ 31 % 128)) := by
        have h5 := Int.emod_add_mul_ediv (ρ 31) 128
        rw [← l1, ← h31.1, Int.mul_assoc, ← Int.add_assoc, Int.add_comm (256 ^ 31 * (128 * (ρ 31 / 128))), Int.add_assoc, ← Int.mul_add, Int.add_comm (128 * (ρ 31 / 128)), h5]
      have hs : 0 ≤ dv 256 (seg ρ 0 31) + 256 ^ 31 * (ρ 31 % 128) ∧ dv 256 (seg ρ 0 31) + 256 ^ 31 * (ρ 31 % 128) < H255 := by
        have p0 : 0 ≤ (256 : Int) ^ 31 * (ρ 31 % 128) := Int.mul_nonneg (by omega) (by omega)
        have p1 : (256 : Int) ^ 31 * (ρ 31 % 128) ≤ 256 ^ 31 * 127 := Int.mul_le_mul_of_nonneg_left (by omega) (by omega)
        omega
      generalize dv 256 (seg ρ 0 31) + 256 ^ 31 * (ρ 31 % 128) = s at *
      rw [hr]
      exact ⟨by rw [Int.add_comm, Int.add_mul_ediv_left _ _ (by omega), Int.ediv_eq_zero_of_lt hs.1 hs.2, Int.zero_add], by rw [Int.add_comm, Int.add_mul_emod_self_left, Int.emod_eq_of_lt hs.1 hs.2]⟩
    refine ⟨?_, ?_⟩
    · rw [e1, hq.1]
      constructor
      · intro h; split at h
        · omega
        · exact absurd rfl h
      · intro h; rw [if_pos (by omega)]; decide
    · rw [dv_last, seg_len, e2, hY, hq.2]
  by_cases c1 : Y < PP
  · by_cases c2 : rtOK (argQ Y)
    · by_cases c3 : A / H255 = 1
      · by_cases c4 : eroot (argQ Y) = 0
        · refine Go.Sx.Way.of (dec := [false,false,true,true]) (fs := [.bin 32 .and .u8 (.v 31) (.l 128), .cmp 33 .neq (.v 32) (.l 0), .bin 34 .andNot .u8 (.v 31) (.l 128), .need 32 [[.v 0, .v 1, .v 2, .v 3, .v 4, .v 5, .v 6, .v 7, .v 8, .v 9, .v 10, .v 11, .v 12, .v 13, .v 14, .v 15, .v 16, .v 17, .v 18, .v 19, .v 20, .v 21, .v 22, .v 23, .v 24, .v 25, .v 26, .v 27, .v 28, .v 29, .v 30, .v 34]], .call 35 32 [[.v 0, .v 1, .v 2, .v 3, .v 4, .v 5, .v 6, .v 7, .v 8, .v 9, .v 10, .v 11, .v 12, .v 13, .v 14, .v 15, .v 16, .v 17, .v 18, .v 19, .v 20, .v 21, .v 22, .v 23, .v 24, .v 25, .v 26, .v 27, .v 28, .v 29, .v 30, .v 34]] 1, .not 36 (.v 35), .cond 36 false, .need 10 [[.v 0, .v 1, .v 2, .v 3, .v 4, .v 5, .v 6, .v 7, .v 8, .v 9, .v 10, .v 11, .v 12, .v 13, .v 14, .v 15, .v 16, .v 17, .v 18, .v 19, .v 20, .v 21, .v 22, .v 23, .v 24, .v 25, .v 26, .v 27, .v 28, .v 29, .v 30, .v 34]], .call 37 10 [[.v 0, .v 1, .v 2, .v 3, .v 4, .v 5, .v 6, .v 7, .v 8, .v 9, .v 10, .v 11, .v 12, .v 13, .v 14, .v 15, .v 16, .v 17, .v 18, .v 19, .v 20, .v 21, .v 22, .v 23, .v 24, .v 25, .v 26, .v 27, .v 28, .v 29, .v 30, .v 34]] 4, .need 18 [[.v 37, .v 38, .v 39, .v 40], [.v 37, .v 38, .v 39, .v 40]], .call 41 18 [[.v 37, .v 38, .v 39, .v 40], [.v 37, .v 38, .v 39, .v 40]] 4, .need 16 [[.v 41, .v 42, .v 43, .v 44], [.l 1, .l 0, .l 0, .l 0]], .call 45 16 [[.v 41, .v 42, .v 43, .v 44], [.l 1, .l 0, .l 0, .l 0]] 4, .need 18 [[.l 8496970652267935907, .l 31536524315187371, .l 10144147576115030168, .l 5909686906226998899], [.v 41, .v 42, .v 43, .v 44]], .call 49 18 [[.l 8496970652267935907, .l 31536524315187371, .l 10144147576115030168, .l 5909686906226998899], [.v 41, .v 42, .v 43, .v 44]] 4, .need 15 [[.v 49, .v 50, .v 51, .v 52], [.l 1, .l 0, .l 0, .l 0]], .call 53 15 [[.v 49, .v 50, .v 51, .v 52], [.l 1, .l 0, .l 0, .l 0]] 4, .need 79 [[.v 53, .v 54, .v 55, .v 56]], .call 57 79 [[.v 53, .v 54, .v 55, .v 56]] 4, .need 18 [[.v 45, .v 46, .v 47, .v 48], [.v 57, .v 58, .v 59, .v 60]], .call 61 18 [[.v 45, .v 46, .v 47, .v 48], [.v 57, .v 58, .v 59, .v 60]] 4, .need 20 [[.v 61, .v 62, .v 63, .v 64]], .call 65 20 [[.v 61, .v 62, .v 63, .v 64]] 5, .not 70 (.v 69), .cond 70 false, .cond 33 true, .eqs 71 [(.v 65, .l 0), (.v 66, .l 0), (.v 67, .l 0), (.v 68, .l 0)], .cond 71 true]) (refs := [.l 0, .l 0, .l 0, .l 0, .l 0, .l 0, .l 0, .l 0, .l 0, .l 0, .l 0, .l 0, .l 0, .l 0, .l 0, .l 0, .l 0]) (by kernel_rfl) fun ρ hρ hd => ?_
          simp only [D_nil, D_add, D_sub, D_mul, D_and, D_or, D_xor, D_shl, D_shr, D_andNot, D_quo, D_rem, D_add_i64, D_sub_i64, D_mul_i64, D_add_u32, D_sub_u32, D_mul_u32, D_add_u8, D_sub_u8, D_mul_u8, D_eql, D_neq, D_lss, D_leq, D_gtr, D_geq, D_not, D_conv, D_eqs, D_call, D_cond, D_need, D_idx, D_sel, D_upd, D_shv, D_beq, List.map_cons, List.map_nil, Ref.den] at hd
          obtain ⟨h32, h33, h34, h35, h36, h37, h41, h45, h49, h53, h57, h61, h65, h70, h71, -⟩ := hd
          obtain ⟨hq, hB⟩ := start ρ hρ _ _ h32 h34
          have s35 : ρ 35 = b2i (decide (dv 256 (seg ρ 0 31 ++ [ρ 34]) < PP)) := h35 0 (by decide)
          rw [hB] at s35
          have g33 : ρ 33 = b2i (decide (A / H255 = 1)) := h33.trans (b2i_congr hq)
          have s37 : seg ρ 37 4 = dg MM 4 (dv 256 (seg ρ 0 31 ++ [ρ 34])) := seg_of h37 (dg_len _ _ _)
          rw [hB] at s37
          have e37 : dv MM (seg ρ 37 4) = Y := by rw [s37, dvW bY.1 bY.2]
          have b37 : 0 ≤ dv MM (seg ρ 37 4) ∧ dv MM (seg ρ 37 4) < WW := by rw [e37]; exact bY
          have s41 : seg ρ 41 4 = dg MM 4 (timesZ (dv MM (seg ρ 37 4)) (dv MM (seg ρ 37 4))) := seg_of h41 (dg_len _ _ _)
          obtain ⟨e41, b41⟩ := ft s41 b37 b37
          have s45 : seg ρ 45 4 = dg MM 4 (minZ (dv MM (seg ρ 41 4)) (dv MM [1, 0, 0, 0])) := seg_of h45 (dg_len _ _ _)
          obtain ⟨e45, b45⟩ := fm s45 b41 b1
          have s49 : seg ρ 49 4 = dg MM 4 (timesZ (dv MM [8496970652267935907, 31536524315187371, 10144147576115030168, 5909686906226998899]) (dv MM (seg ρ 41 4))) := seg_of h49 (dg_len _ _ _)
          obtain ⟨e49, b49⟩ := ft s49 bD b41
          have s53 : seg ρ 53 4 = dg MM 4 (plusZ (dv MM (seg ρ 49 4)) (dv MM [1, 0, 0, 0])) := seg_of h53 (dg_len _ _ _)
          obtain ⟨e53, b53⟩ := fp s53 b49 b1
          have s57 : seg ρ 57 4 = dg MM 4 (powZ (dv MM (seg ρ 53 4)) (PP - 2) 256) := seg_of h57 (dg_len _ _ _)
          obtain ⟨e57, b57⟩ := fv s57 b53
          have s61 : seg ρ 61 4 = dg MM 4 (timesZ (dv MM (seg ρ 45 4)) (dv MM (seg ρ 57 4))) := seg_of h61 (dg_len _ _ _)
          obtain ⟨e61, b61⟩ := ft s61 b45 b57
          have e61' : dv MM (seg ρ 61 4) = argQ Y := by rw [e61, e57, e53, e49, e45, e41, e37, eD, e_one, argQ]
          have h65 : ∀ i, i < 5 → ρ (65 + i) = (if timesZ (rootT (argQ Y)) (rootT (argQ Y)) % PP = argQ Y % PP then dg MM 4 (eroot (argQ Y)) ++ [1] else [0, 0, 0, 0, 0]).getD i 0 := fun i hi => by have := h65 i hi; rw [show [ρ 61, ρ 62, ρ 63, ρ 64] = seg ρ 61 4 from rfl, pg20, e61'] at this; exact this
          have c2' := c2
          unfold rtOK at c2'
          simp only [if_pos c2'] at h65
          have s65 : seg ρ 65 4 = dg MM 4 (eroot (argQ Y)) := seg_of (fun i hi => by
            rw [h65 i (by omega)]
            simp only [List.getD_eq_getElem?_getD]
            rw [List.getElem?_append_left (by rw [dg_len]; omega)]) (dg_len _ _ _)
          have e65 : dv MM (seg ρ 65 4) = eroot (argQ Y) := by rw [s65, dvW bE.1 bE.2]
          have b65 : 0 ≤ dv MM (seg ρ 65 4) ∧ dv MM (seg ρ 65 4) < WW := by rw [e65]; exact bE
          have h69 : ρ 69 = 1 := by
            have := h65 4 (by decide)
            rw [this]
            simp only [List.getD_eq_getElem?_getD]
            rw [List.getElem?_append_right (by rw [dg_len]; omega), dg_len]; rfl
          have k70 := not_bit h70 h69
          have g35 : ρ 35 = 1 := by rw [s35, decide_eq_true c1]; rfl
          have k36 := not_bit h36 g35
          have q71 : ρ 71 = b2i (decide (seg ρ 65 4 = [0, 0, 0, 0])) := h71.trans (congrArg b2i eqs_lists)
          have k33 := bit_true g33 (decide_eq_true c3)
          have k71 := bit_true q71 (decide_eq_true (by rw [s65, c4]; decide))
          rw [if_neg (fun h => (eO.1 h).2.2 ⟨c3, c4⟩)]
          exact ⟨by simp only [G_nil, G_bin, G_cmp, G_not, G_conv, G_eqs, G_call, G_cond, G_need, G_idx, G_sel, G_upd, G_shv, G_beq, List.map_cons, List.map_nil, Ref.den]; exact ⟨trivial, k36, trivial, trivial, trivial, trivial, trivial, trivial, trivial, trivial, k70, k33, k71, trivial⟩, rfl⟩
        · refine Go.Sx.Way.of (dec := [false,false,true,false]) (fs := [.bin 32 .and .u8 (.v 31) (.l 128), .cmp 33 .neq (.v 32) (.l 0), .bin 34 .andNot .u8 (.v 31) (.l 128), .need 32 [[.v 0, .v 1, .v 2, .v 3, .v 4, .v 5, .v 6, .v 7, .v 8, .v 9, .v 10, .v 11, .v 12, .v 13, .v 14, .v 15, .v 16, .v 17, .v 18, .v 19, .v 20, .v 21, .v 22, .v 23, .v 24, .v 25, .v 26, .v 27, .v 28, .v 29, .v 30, .v 34]], .call 35 32 [[.v 0, .v 1, .v 2, .v 3, .v 4, .v 5, .v 6, .v 7, .v 8, .v 9, .v 10, .v 11, .v 12, .v 13, .v 14, .v 15, .v 16, .v 17, .v 18, .v 19, .v 20, .v 21, .v 22, .v 23, .v 24, .v 25, .v 26, .v 27, .v 28, .v 29, .v 30, .v 34]] 1, .not 36 (.v 35), .cond 36 false, .need 10 [[.v 0, .v 1, .v 2, .v 3, .v 4, .v 5, .v 6, .v 7, .v 8, .v 9, .v 10, .v 11, .v 12, .v 13, .v 14, .v 15, .v 16, .v 17, .v 18, .v 19, .v 20, .v 21, .v 22, .v 23, .v 24, .v 25, .v 26, .v 27, .v 28, .v 29, .v 30, .v 34]], .call 37 10 [[.v 0, .v 1, .v 2, .v 3, .v 4, .v 5, .v 6, .v 7, .v 8, .v 9, .v 10, .v 11, .v 12, .v 13, .v 14, .v 15, .v 16, .v 17, .v 18, .v 19, .v 20, .v 21, .v 22, .v 23, .v 24, .v 25, .v 26, .v 27, .v 28, .v 29, .v 30, .v 34]] 4, .need 18 [[.v 37, .v 38, .v 39, .v 40], [.v 37, .v 38, .v 39, .v 40]], .call 41 18 [[.v 37, .v 38, .v 39, .v 40], [.v 37, .v 38, .v 39, .v 40]] 4, .need 16 [[.v 41, .v 42, .v 43, .v 44], [.l 1, .l 0, .l 0, .l 0]], .call 45 16 [[.v 41, .v 42, .v 43, .v 44], [.l 1, .l 0, .l 0, .l 0]] 4, .need 18 [[.l 8496970652267935907, .l 31536524315187371, .l 10144147576115030168, .l 5909686906226998899], [.v 41, .v 42, .v 43, .v 44]], .call 49 18 [[.l 8496970652267935907, .l 31536524315187371, .l 10144147576115030168, .l 5909686906226998899], [.v 41, .v 42, .v 43, .v 44]] 4, .need 15 [[.v 49, .v 50, .v 51, .v 52], [.l 1, .l 0, .l 0, .l 0]], .call 53 15 [[.v 49, .v 50, .v 51, .v 52], [.l 1, .l 0, .l 0, .l 0]] 4, .need 79 [[.v 53, .v 54, .v 55, .v 56]], .call 57 79 [[.v 53, .v 54, .v 55, .v 56]] 4, .need 18 [[.v 45, .v 46, .v 47, .v 48], [.v 57, .v 58, .v 59, .v 60]], .call 61 18 [[.v 45, .v 46, .v 47, .v 48], [.v 57, .v 58, .v 59, .v 60]] 4, .need 20 [[.v 61, .v 62, .v 63, .v 64]], .call 65 20 [[.v 61, .v 62, .v 63, .v 64]] 5, .not 70 (.v 69), .cond 70 false, .cond 33 true, .eqs 71 [(.v 65, .l 0), (.v 66, .l 0), (.v 67, .l 0), (.v 68, .l 0)], .cond 71 false, .need 16 [[.l 0, .l 0, .l 0, .l 0], [.v 65, .v 66, .v 67, .v 68]], .call 72 16 [[.l 0, .l 0, .l 0, .l 0], [.v 65, .v 66, .v 67, .v 68]] 4, .need 18 [[.v 72, .v 73, .v 74, .v 75], [.v 37, .v 38, .v 39, .v 40]], .call 76 18 [[.v 72, .v 73, .v 74, .v 75], [.v 37, .v 38, .v 39, .v 40]] 4]) (refs := [.v 72, .v 73, .v 74, .v 75, .v 37, .v 38, .v 39, .v 40, .l 1, .l 0, .l 0, .l 0, .v 76, .v 77, .v 78, .v 79, .l 1]) (by kernel_rfl) fun ρ hρ hd => ?_
          simp only [D_nil, D_add, D_sub, D_mul, D_and, D_or, D_xor, D_shl, D_shr, D_andNot, D_quo, D_rem, D_add_i64, D_sub_i64, D_mul_i64, D_add_u32, D_sub_u32, D_mul_u32, D_add_u8, D_sub_u8, D_mul_u8, D_eql, D_neq, D_lss, D_leq, D_gtr, D_geq, D_not, D_conv, D_eqs, D_call, D_cond, D_need, D_idx, D_sel, D_upd, D_shv, D_beq, List.map_cons, List.map_nil, Ref.den] at hd
          obtain ⟨h32, h33, h34, h35, h36, h37, h41, h45, h49, h53, h57, h61, h65, h70, h71, h72, h76, -⟩ := hd
          obtain ⟨hq, hB⟩ := start ρ hρ _ _ h32 h34
          have s35 : ρ 35 = b2i (decide (dv 256 (seg ρ 0 31 ++ [ρ 34]) < PP)) := h35 0 (by decide)
          rw [hB] at s35
          have g33 : ρ 33 = b2i (decide (A / H255 = 1)) := h33.trans (b2i_congr hq)
          have s37 : seg ρ 37 4 = dg MM 4 (dv 256 (seg ρ 0 31 ++ [ρ 34])) := seg_of h37 (dg_len _ _ _)
          rw [hB] at s37
          have e37 : dv MM (seg ρ 37 4) = Y := by rw [s37, dvW bY.1 bY.2]
          have b37 : 0 ≤ dv MM (seg ρ 37 4) ∧ dv MM (seg ρ 37 4) < WW := by rw [e37]; exact bY
          have s41 : seg ρ 41 4 = dg MM 4 (timesZ (dv MM (seg ρ 37 4)) (dv MM (seg ρ 37 4))) := seg_of h41 (dg_len _ _ _)
          obtain ⟨e41, b41⟩ := ft s41 b37 b37
          have s45 : seg ρ 45 4 = dg MM 4 (minZ (dv MM (seg ρ 41 4)) (dv MM [1, 0, 0, 0])) := seg_of h45 (dg_len _ _ _)
          obtain ⟨e45, b45⟩ := fm s45 b41 b1
          have s49 : seg ρ 49 4 = dg MM 4 (timesZ (dv MM [8496970652267935907, 31536524315187371, 10144147576115030168, 5909686906226998899]) (dv MM (seg ρ 41 4))) := seg_of h49 (dg_len _ _ _)
          obtain ⟨e49, b49⟩ := ft s49 bD b41
          have s53 : seg ρ 53 4 = dg MM 4 (plusZ (dv MM (seg ρ 49 4)) (dv MM [1, 0, 0, 0])) := seg_of h53 (dg_len _ _ _)
          obtain ⟨e53, b53⟩ := fp s53 b49 b1
          have s57 : seg ρ 57 4 = dg MM 4 (powZ (dv MM (seg ρ 53 4)) (PP - 2) 256) := seg_of h57 (dg_len _ _ _)
          obtain ⟨e57, b57⟩ := fv s57 b53
          have s61 : seg ρ 61 4 = dg MM 4 (timesZ (dv MM (seg ρ 45 4)) (dv MM (seg ρ 57 4))) := seg_of h61 (dg_len _ _ _)
          obtain ⟨e61, b61⟩ := ft s61 b45 b57
          have e61' : dv MM (seg ρ 61 4) = argQ Y := by rw [e61, e57, e53, e49, e45, e41, e37, eD, e_one, argQ]
          have h65 : ∀ i, i < 5 → ρ (65 + i) = (if timesZ (rootT (argQ Y)) (rootT (argQ Y)) % PP = argQ Y % PP then dg MM 4 (eroot (argQ Y)) ++ [1] else [0, 0, 0, 0, 0]).getD i 0 := fun i hi => by have := h65 i hi; rw [show [ρ 61, ρ 62, ρ 63, ρ 64] = seg ρ 61 4 from rfl, pg20, e61'] at this; exact this
          have c2' := c2
          unfold rtOK at c2'
          simp only [if_pos c2'] at h65
          have s65 : seg ρ 65 4 = dg MM 4 (eroot (argQ Y)) := seg_of (fun i hi => by
            rw [h65 i (by omega)]
            simp only [List.getD_eq_getElem?_getD]
            rw [List.getElem?_append_left (by rw [dg_len]; omega)]) (dg_len _ _ _)
          have e65 : dv MM (seg ρ 65 4) = eroot (argQ Y) := by rw [s65, dvW bE.1 bE.2]
          have b65 : 0 ≤ dv MM (seg ρ 65 4) ∧ dv MM (seg ρ 65 4) < WW := by rw [e65]; exact bE
          have h69 : ρ 69 = 1 := by
            have := h65 4 (by decide)
            rw [this]
            simp only [List.getD_eq_getElem?_getD]
            rw [List.getElem?_append_right (by rw [dg_len]; omega), dg_len]; rfl
          have k70 := not_bit h70 h69
          have g35 : ρ 35 = 1 := by rw [s35, decide_eq_true c1]; rfl
          have k36 := not_bit h36 g35
          have s72 : seg ρ 72 4 = dg MM 4 (minZ (dv MM [0, 0, 0, 0]) (dv MM (seg ρ 65 4))) := seg_of h72 (dg_len _ _ _)
          obtain ⟨e72, b72⟩ := fm s72 bZ b65
          have s76 : seg ρ 76 4 = dg MM 4 (timesZ (dv MM (seg ρ 72 4)) (dv MM (seg ρ 37 4))) := seg_of h76 (dg_len _ _ _)
          obtain ⟨e76, b76⟩ := ft s76 b72 b37
          have q71 : ρ 71 = b2i (decide (seg ρ 65 4 = [0, 0, 0, 0])) := h71.trans (congrArg b2i eqs_lists)
          have k33 := bit_true g33 (decide_eq_true c3)
          have k71 := bit_false q71 (decide_eq_false (fun h => c4 (by rw [← e65, h]; decide)))
          rw [if_pos (eO.2 ⟨c1, c2, fun h => c4 h.2⟩)]
          refine ⟨by simp only [G_nil, G_bin, G_cmp, G_not, G_conv, G_eqs, G_call, G_cond, G_need, G_idx, G_sel, G_upd, G_shv, G_beq, List.map_cons, List.map_nil, Ref.den]; exact ⟨trivial, k36, trivial, trivial, trivial, trivial, trivial, trivial, trivial, trivial, k70, k33, k71, trivial, trivial, trivial⟩, ?_⟩
          have eq : qL (decQ A) = seg ρ 72 4 ++ (seg ρ 37 4 ++ ([1, 0, 0, 0] ++ seg ρ 76 4)) := by
            rw [eQ, eX, if_pos c3, s72, s37, s76, e72, e37, e65, e_nil]; simp only [qL, dg_one]
          rw [eq]; rfl
      · refine Go.Sx.Way.of (dec := [false,false,false]) (fs := [.bin 32 .and .u8 (.v 31) (.l 128), .cmp 33 .neq (.v 32) (.l 0), .bin 34 .andNot .u8 (.v 31) (.l 128), .need 32 [[.v 0, .v 1, .v 2, .v 3, .v 4, .v 5, .v 6, .v 7, .v 8, .v 9, .v 10, .v 11, .v 12, .v 13, .v 14, .v 15, .v 16, .v 17, .v 18, .v 19, .v 20, .v 21, .v 22, .v 23, .v 24, .v 25, .v 26, .v 27, .v 28, .v 29, .v 30, .v 34]], .call 35 32 [[.v 0, .v 1, .v 2, .v 3, .v 4, .v 5, .v 6, .v 7, .v 8, .v 9, .v 10, .v 11, .v 12, .v 13, .v 14, .v 15, .v 16, .v 17, .v 18, .v 19, .v 20, .v 21, .v 22, .v 23, .v 24, .v 25, .v 26, .v 27, .v 28, .v 29, .v 30, .v 34]] 1, .not 36 (.v 35), .cond 36 false, .need 10 [[.v 0, .v 1, .v 2, .v 3, .v 4, .v 5, .v 6, .v 7, .v 8, .v 9, .v 10, .v 11, .v 12, .v 13, .v 14, .v 15, .v 16, .v 17, .v 18, .v 19, .v 20, .v 21, .v 22, .v 23, .v 24, .v 25, .v 26, .v 27, .v 28, .v 29, .v 30, .v 34]], .call 37 10 [[.v 0, .v 1, .v 2, .v 3, .v 4, .v 5, .v 6, .v 7, .v 8, .v 9, .v 10, .v 11, .v 12, .v 13, .v 14, .v 15, .v 16, .v 17, .v 18, .v 19, .v 20, .v 21, .v 22, .v 23, .v 24, .v 25, .v 26, .v 27, .v 28, .v 29, .v 30, .v 34]] 4, .need 18 [[.v 37, .v 38, .v 39, .v 40], [.v 37, .v 38, .v 39, .v 40]], .call 41 18 [[.v 37, .v 38, .v 39, .v 40], [.v 37, .v 38, .v 39, .v 40]] 4, .need 16 [[.v 41, .v 42, .v 43, .v 44], [.l 1, .l 0, .l 0, .l 0]], .call 45 16 [[.v 41, .v 42, .v 43, .v 44], [.l 1, .l 0, .l 0, .l 0]] 4, .need 18 [[.l 8496970652267935907, .l 31536524315187371, .l 10144147576115030168, .l 5909686906226998899], [.v 41, .v 42, .v 43, .v 44]], .call 49 18 [[.l 8496970652267935907, .l 31536524315187371, .l 10144147576115030168, .l 5909686906226998899], [.v 41, .v 42, .v 43, .v 44]] 4, .need 15 [[.v 49, .v 50, .v 51, .v 52], [.l 1, .l 0, .l 0, .l 0]], .call 53 15 [[.v 49, .v 50, .v 51, .v 52], [.l 1, .l 0, .l 0, .l 0]] 4, .need 79 [[.v 53, .v 54, .v 55, .v 56]], .call 57 79 [[.v 53, .v 54, .v 55, .v 56]] 4, .need 18 [[.v 45, .v 46, .v 47, .v 48], [.v 57, .v 58, .v 59, .v 60]], .call 61 18 [[.v 45, .v 46, .v 47, .v 48], [.v 57, .v 58, .v 59, .v 60]] 4, .need 20 [[.v 61, .v 62, .v 63, .v 64]], .call 65 20 [[.v 61, .v 62, .v 63, .v 64]] 5, .not 70 (.v 69), .cond 70 false, .cond 33 false, .need 18 [[.v 65, .v 66, .v 67, .v 68], [.v 37, .v 38, .v 39, .v 40]], .call 71 18 [[.v 65, .v 66, .v 67, .v 68], [.v 37, .v 38, .v 39, .v 40]] 4]) (refs := [.v 65, .v 66, .v 67, .v 68, .v 37, .v 38, .v 39, .v 40, .l 1, .l 0, .l 0, .l 0, .v 71, .v 72, .v 73, .v 74, .l 1]) (by kernel_rfl) fun ρ hρ hd => ?_
        simp only [D_nil, D_add, D_sub, D_mul, D_and, D_or, D_xor, D_shl, D_shr, D_andNot, D_quo, D_rem, D_add_i64, D_sub_i64, D_mul_i64, D_add_u32, D_sub_u32, D_mul_u32, D_add_u8, D_sub_u8, D_mul_u8, D_eql, D_neq, D_lss, D_leq, D_gtr, D_geq, D_not, D_conv, D_eqs, D_call, D_cond, D_need, D_idx, D_sel, D_upd, D_shv, D_beq, List.map_cons, List.map_nil, Ref.den] at hd
        obtain ⟨h32, h33, h34, h35, h36, h37, h41, h45, h49, h53, h57, h61, h65, h70, h71, -⟩ := hd
        obtain ⟨hq, hB⟩ := start ρ hρ _ _ h32 h34
        have s35 : ρ 35 = b2i (decide (dv 256 (seg ρ 0 31 ++ [ρ 34]) < PP)) := h35 0 (by decide)
        rw [hB] at s35
        have g33 : ρ 33 = b2i (decide (A / H255 = 1)) := h33.trans (b2i_congr hq)
        have s37 : seg ρ 37 4 = dg MM 4 (dv 256 (seg ρ 0 31 ++ [ρ 34])) := seg_of h37 (dg_len _ _ _)
        rw [hB] at s37
        have e37 : dv MM (seg ρ 37 4) = Y := by rw [s37, dvW bY.1 bY.2]
        have b37 : 0 ≤ dv MM (seg ρ 37 4) ∧ dv MM (seg ρ 37 4) < WW := by rw [e37]; exact bY
        have s41 : seg ρ 41 4 = dg MM 4 (timesZ (dv MM (seg ρ 37 4)) (dv MM (seg ρ 37 4))) := seg_of h41 (dg_len _ _ _)
        obtain ⟨e41, b41⟩ := ft s41 b37 b37
        have s45 : seg ρ 45 4 = dg MM 4 (minZ (dv MM (seg ρ 41 4)) (dv MM [1, 0, 0, 0])) := seg_of h45 (dg_len _ _ _)
        obtain ⟨e45, b45⟩ := fm s45 b41 b1
        have s49 : seg ρ 49 4 = dg MM 4 (timesZ (dv MM [8496970652267935907, 31536524315187371, 10144147576115030168, 5909686906226998899]) (dv MM (seg ρ 41 4))) := seg_of h49 (dg_len _ _ _)
        obtain ⟨e49, b49⟩ := ft s49 bD b41
        have s53 : seg ρ 53 4 = dg MM 4 (plusZ (dv MM (seg ρ 49 4)) (dv MM [1, 0, 0, 0])) := seg_of h53 (dg_len _ _ _)
        obtain ⟨e53, b53⟩ := fp s53 b49 b1
        have s57 : seg ρ 57 4 = dg MM 4 (powZ (dv MM (seg ρ 53 4)) (PP - 2) 256) := seg_of h57 (dg_len _ _ _)
        obtain ⟨e57, b57⟩ := fv s57 b53
        have s61 : seg ρ 61 4 = dg MM 4 (timesZ (dv MM (seg ρ 45 4)) (dv MM (seg ρ 57 4))) := seg_of h61 (dg_len _ _ _)
        obtain ⟨e61, b61⟩ := ft s61 b45 b57
        have e61' : dv MM (seg ρ 61 4) = argQ Y := by rw [e61, e57, e53, e49, e45, e41, e37, eD, e_one, argQ]
        have h65 : ∀ i, i < 5 → ρ (65 + i) = (if timesZ (rootT (argQ Y)) (rootT (argQ Y)) % PP = argQ Y % PP then dg MM 4 (eroot (argQ Y)) ++ [1] else [0, 0, 0, 0, 0]).getD i 0 := fun i hi => by have := h65 i hi; rw [show [ρ 61, ρ 62, ρ 63, ρ 64] = seg ρ 61 4 from rfl, pg20, e61'] at this; exact this
        have c2' := c2
        unfold rtOK at c2'
        simp only [if_pos c2'] at h65
        have s65 : seg ρ 65 4 = dg MM 4 (eroot (argQ Y)) := seg_of (fun i hi => by
          rw [h65 i (by omega)]
          simp only [List.getD_eq_getElem?_getD]
          rw [List.getElem?_append_left (by rw [dg_len]; omega)]) (dg_len _ _ _)
        have e65 : dv MM (seg ρ 65 4) = eroot (argQ Y) := by rw [s65, dvW bE.1 bE.2]
        have b65 : 0 ≤ dv MM (seg ρ 65 4) ∧ dv MM (seg ρ 65 4) < WW := by rw [e65]; exact bE
        have h69 : ρ 69 = 1 := by
          have := h65 4 (by decide)
          rw [this]
          simp only [List.getD_eq_getElem?_getD]
          rw [List.getElem?_append_right (by rw [dg_len]; omega), dg_len]; rfl
        have k70 := not_bit h70 h69
        have g35 : ρ 35 = 1 := by rw [s35, decide_eq_true c1]; rfl
        have k36 := not_bit h36 g35
        have s71 : seg ρ 71 4 = dg MM 4 (timesZ (dv MM (seg ρ 65 4)) (dv MM (seg ρ 37 4))) := seg_of h71 (dg_len _ _ _)
        obtain ⟨e71, b71⟩ := ft s71 b65 b37
        have k33 := bit_false g33 (decide_eq_false c3)
        rw [if_pos (eO.2 ⟨c1, c2, fun h => c3 h.1⟩)]
        refine ⟨by simp only [G_nil, G_bin, G_cmp, G_not, G_conv, G_eqs, G_call, G_cond, G_need, G_idx, G_sel, G_upd, G_shv, G_beq, List.map_cons, List.map_nil, Ref.den]; exact ⟨trivial, k36, trivial, trivial, trivial, trivial, trivial, trivial, trivial, trivial, k70, k33, trivial, trivial⟩, ?_⟩
        have eq : qL (decQ A) = seg ρ 65 4 ++ (seg ρ 37 4 ++ ([1, 0, 0, 0] ++ seg ρ 71 4)) := by
          rw [eQ, eX, if_neg c3, s65, s37, s71, e65, e37]; simp only [qL, dg_one]
        rw [eq]; rfl
    · refine Go.Sx.Way.of (dec := [false,true]) (fs := [.bin 32 .and .u8 (.v 31) (.l 128), .cmp 33 .neq (.v 32) (.l 0), .bin 34 .andNot .u8 (.v 31) (.l 128), .need 32 [[.v 0, .v 1, .v 2, .v 3, .v 4, .v 5, .v 6, .v 7, .v 8, .v 9, .v 10, .v 11, .v 12, .v 13, .v 14, .v 15, .v 16, .v 17, .v 18, .v 19, .v 20, .v 21, .v 22, .v 23, .v 24, .v 25, .v 26, .v 27, .v 28, .v 29, .v 30, .v 34]], .call 35 32 [[.v 0, .v 1, .v 2, .v 3, .v 4, .v 5, .v 6, .v 7, .v 8, .v 9, .v 10, .v 11, .v 12, .v 13, .v 14, .v 15, .v 16, .v 17, .v 18, .v 19, .v 20, .v 21, .v 22, .v 23, .v 24, .v 25, .v 26, .v 27, .v 28, .v 29, .v 30, .v 34]] 1, .not 36 (.v 35), .cond 36 false, .need 10 [[.v 0, .v 1, .v 2, .v 3, .v 4, .v 5, .v 6, .v 7, .v 8, .v 9, .v 10, .v 11, .v 12, .v 13, .v 14, .v 15, .v 16, .v 17, .v 18, .v 19, .v 20, .v 21, .v 22, .v 23, .v 24, .v 25, .v 26, .v 27, .v 28, .v 29, .v 30, .v 34]], .call 37 10 [[.v 0, .v 1, .v 2, .v 3, .v 4, .v 5, .v 6, .v 7, .v 8, .v 9, .v 10, .v 11, .v 12, .v 13, .v 14, .v 15, .v 16, .v 17, .v 18, .v 19, .v 20, .v 21, .v 22, .v 23, .v 24, .v 25, .v 26, .v 27, .v 28, .v 29, .v 30, .v 34]] 4, .need 18 [[.v 37, .v 38, .v 39, .v 40], [.v 37, .v 38, .v 39, .v 40]], .call 41 18 [[.v 37, .v 38, .v 39, .v 40], [.v 37, .v 38, .v 39, .v 40]] 4, .need 16 [[.v 41, .v 42, .v 43, .v 44], [.l 1, .l 0, .l 0, .l 0]], .call 45 16 [[.v 41, .v 42, .v 43, .v 44], [.l 1, .l 0, .l 0, .l 0]] 4, .need 18 [[.l 8496970652267935907, .l 31536524315187371, .l 10144147576115030168, .l 5909686906226998899], [.v 41, .v 42, .v 43, .v 44]], .call 49 18 [[.l 8496970652267935907, .l 31536524315187371, .l 10144147576115030168, .l 5909686906226998899], [.v 41, .v 42, .v 43, .v 44]] 4, .need 15 [[.v 49, .v 50, .v 51, .v 52], [.l 1, .l 0, .l 0, .l 0]], .call 53 15 [[.v 49, .v 50, .v 51, .v 52], [.l 1, .l 0, .l 0, .l 0]] 4, .need 79 [[.v 53, .v 54, .v 55, .v 56]], .call 57 79 [[.v 53, .v 54, .v 55, .v 56]] 4, .need 18 [[.v 45, .v 46, .v 47, .v 48], [.v 57, .v 58, .v 59, .v 60]], .call 61 18 [[.v 45, .v 46, .v 47, .v 48], [.v 57, .v 58, .v 59, .v 60]] 4, .need 20 [[.v 61, .v 62, .v 63, .v 64]], .call 65 20 [[.v 61, .v 62, .v 63, .v 64]] 5, .not 70 (.v 69), .cond 70 true]) (refs := [.l 0, .l 0, .l 0, .l 0, .l 0, .l 0, .l 0, .l 0, .l 0, .l 0, .l 0, .l 0, .l 0, .l 0, .l 0, .l 0, .l 0]) (by kernel_rfl) fun ρ hρ hd => ?_
      simp only [D_nil, D_add, D_sub, D_mul, D_and, D_or, D_xor, D_shl, D_shr, D_andNot, D_quo, D_rem, D_add_i64, D_sub_i64, D_mul_i64, D_add_u32, D_sub_u32, D_mul_u32, D_add_u8, D_sub_u8, D_mul_u8, D_eql, D_neq, D_lss, D_leq, D_gtr, D_geq, D_not, D_conv, D_eqs, D_call, D_cond, D_need, D_idx, D_sel, D_upd, D_shv, D_beq, List.map_cons, List.map_nil, Ref.den] at hd
      obtain ⟨h32, h33, h34, h35, h36, h37, h41, h45, h49, h53, h57, h61, h65, h70, -⟩ := hd
      obtain ⟨hq, hB⟩ := start ρ hρ _ _ h32 h34
      have s35 : ρ 35 = b2i (decide (dv 256 (seg ρ 0 31 ++ [ρ 34]) < PP)) := h35 0 (by decide)
      rw [hB] at s35
      have s37 : seg ρ 37 4 = dg MM 4 (dv 256 (seg ρ 0 31 ++ [ρ 34])) := seg_of h37 (dg_len _ _ _)
      rw [hB] at s37
      have e37 : dv MM (seg ρ 37 4) = Y := by rw [s37, dvW bY.1 bY.2]
      have b37 : 0 ≤ dv MM (seg ρ 37 4) ∧ dv MM (seg ρ 37 4) < WW := by rw [e37]; exact bY
      have s41 : seg ρ 41 4 = dg MM 4 (timesZ (dv MM (seg ρ 37 4)) (dv MM (seg ρ 37 4))) := seg_of h41 (dg_len _ _ _)
      obtain ⟨e41, b41⟩ := ft s41 b37 b37
      have s45 : seg ρ 45 4 = dg MM 4 (minZ (dv MM (seg ρ 41 4)) (dv MM [1, 0, 0, 0])) := seg_of h45 (dg_len _ _ _)
      obtain ⟨e45, b45⟩ := fm s45 b41 b1
      have s49 : seg ρ 49 4 = dg MM 4 (timesZ (dv MM [8496970652267935907, 31536524315187371, 10144147576115030168, 5909686906226998899]) (dv MM (seg ρ 41 4))) := seg_of h49 (dg_len _ _ _)
      obtain ⟨e49, b49⟩ := ft s49 bD b41
      have s53 : seg ρ 53 4 = dg MM 4 (plusZ (dv MM (seg ρ 49 4)) (dv MM [1, 0, 0, 0])) := seg_of h53 (dg_len _ _ _)
      obtain ⟨e53, b53⟩ := fp s53 b49 b1
      have s57 : seg ρ 57 4 = dg MM 4 (powZ (dv MM (seg ρ 53 4)) (PP - 2) 256) := seg_of h57 (dg_len _ _ _)
      obtain ⟨e57, b57⟩ := fv s57 b53
      have s61 : seg ρ 61 4 = dg MM 4 (timesZ (dv MM (seg ρ 45 4)) (dv MM (seg ρ 57 4))) := seg_of h61 (dg_len _ _ _)
      obtain ⟨e61, b61⟩ := ft s61 b45 b57
      have e61' : dv MM (seg ρ 61 4) = argQ Y := by rw [e61, e57, e53, e49, e45, e41, e37, eD, e_one, argQ]
      have h65 : ∀ i, i < 5 → ρ (65 + i) = (if timesZ (rootT (argQ Y)) (rootT (argQ Y)) % PP = argQ Y % PP then dg MM 4 (eroot (argQ Y)) ++ [1] else [0, 0, 0, 0, 0]).getD i 0 := fun i hi => by have := h65 i hi; rw [show [ρ 61, ρ 62, ρ 63, ρ 64] = seg ρ 61 4 from rfl, pg20, e61'] at this; exact this
      have c2' := c2
      unfold rtOK at c2'
      simp only [if_neg c2'] at h65
      have h69 : ρ 69 = 0 := h65 4 (by decide)
      have k70 : decide (ρ 70 ≠ 0) = true := by rw [not_bit0 h70 h69]; rfl
      have g35 : ρ 35 = 1 := by rw [s35, decide_eq_true c1]; rfl
      have k36 := not_bit h36 g35
      rw [if_neg (fun h => c2 (eO.1 h).2.1)]
      exact ⟨by simp only [G_nil, G_bin, G_cmp, G_not, G_conv, G_eqs, G_call, G_cond, G_need, G_idx, G_sel, G_upd, G_shv, G_beq, List.map_cons, List.map_nil, Ref.den]; exact ⟨trivial, k36, trivial, trivial, trivial, trivial, trivial, trivial, trivial, trivial, k70, trivial⟩, rfl⟩
  · refine Go.Sx.Way.of (dec := [true]) (fs := [.bin 32 .and .u8 (.v 31) (.l 128), .cmp 33 .neq (.v 32) (.l 0), .bin 34 .andNot .u8 (.v 31) (.l 128), .need 32 [[.v 0, .v 1, .v 2, .v 3, .v 4, .v 5, .v 6, .v 7, .v 8, .v 9, .v 10, .v 11, .v 12, .v 13, .v 14, .v 15, .v 16, .v 17, .v 18, .v 19, .v 20, .v 21, .v 22, .v 23, .v 24, .v 25, .v 26, .v 27, .v 28, .v 29, .v 30, .v 34]], .call 35 32 [[.v 0, .v 1, .v 2, .v 3, .v 4, .v 5, .v 6, .v 7, .v 8, .v 9, .v 10, .v 11, .v 12, .v 13, .v 14, .v 15, .v 16, .v 17, .v 18, .v 19, .v 20, .v 21, .v 22, .v 23, .v 24, .v 25, .v 26, .v 27, .v 28, .v 29, .v 30, .v 34]] 1, .not 36 (.v 35), .cond 36 true]) (refs := [.l 0, .l 0, .l 0, .l 0, .l 0, .l 0, .l 0, .l 0, .l 0, .l 0, .l 0, .l 0, .l 0, .l 0, .l 0, .l 0, .l 0]) (by kernel_rfl) fun ρ hρ hd => ?_
    simp only [D_nil, D_add, D_sub, D_mul, D_and, D_or, D_xor, D_shl, D_shr, D_andNot, D_quo, D_rem, D_add_i64, D_sub_i64, D_mul_i64, D_add_u32, D_sub_u32, D_mul_u32, D_add_u8, D_sub_u8, D_mul_u8, D_eql, D_neq, D_lss, D_leq, D_gtr, D_geq, D_not, D_conv, D_eqs, D_call, D_cond, D_need, D_idx, D_sel, D_upd, D_shv, D_beq, List.map_cons, List.map_nil, Ref.den] at hd
    obtain ⟨h32, h33, h34, h35, h36, -⟩ := hd
    obtain ⟨hq, hB⟩ := start ρ hρ _ _ h32 h34
    have s35 : ρ 35 = b2i (decide (dv 256 (seg ρ 0 31 ++ [ρ 34]) < PP)) := h35 0 (by decide)
    rw [hB] at s35
    have g35 : ρ 35 = 0 := by rw [s35, decide_eq_false c1]; rfl
    have k36 : decide (ρ 36 ≠ 0) = true := by rw [not_bit0 h36 g35]; rfl
    rw [if_neg (fun h => c1 (eO.1 h).1)]
    exact ⟨by simp only [G_nil, G_bin, G_cmp, G_not, G_conv, G_eqs, G_call, G_cond, G_need, G_idx, G_sel, G_upd, G_shv, G_beq, List.map_cons, List.map_nil, Ref.den]; exact ⟨trivial, k36, trivial⟩, rfl⟩
end Go.Proofs.Ytfobnajgnnccmaa

namespace Go.Proofs.Ytfobnajgnnccmaa
open Go.RowKit Go.Bx Go.Sx
set_option linter.unusedSimpArgs false
set_option linter.unusedVariables false
def PT3 : List Ctr := cSTimes :: cSWord :: cSRead :: PT2
theorem okPT3 : ∀ c ∈ PT3, CtrOK Try.prog pfns c := by
  intro c hc
  rcases List.mem_cons.1 hc with rfl | hc
  · exact okSTimes
  rcases List.mem_cons.1 hc with rfl | hc
  · exact okSWord
  rcases List.mem_cons.1 hc with rfl | hc
  · exact okSRead
  · exact okPT2 c hc
theorem splitN {ρ : Nat → Int} {n m : Nat} {L R : List Int} (hl : L.length = m) (h : ∀ i, i < m + R.length → ρ (n + i) = (L ++ R).getD i 0) : seg ρ n m = L ∧ ∀ i, i < R.length → ρ (n + m + i) = R.getD i 0 := by
  refine ⟨seg_of (fun i hi => by
    rw [h i (by omega)]; simp only [List.getD_eq_getElem?_getD]; rw [List.getElem?_append_left (by omega)]) hl, fun i hi => ?_⟩
  rw [Nat.add_assoc, h (m + i) (by omega)]
  simp only [List.getD_eq_getElem?_getD]
  rw [List.getElem?_append_right (by omega), hl, Nat.add_sub_cancel_left]
theorem read_yes {ρ : Nat → Int} {n : Nat} {A : Int} (h : ∀ i, i < 17 → ρ (n + i) = (if decOK A then qL (decQ A) ++ [1] else List.replicate 16 0 ++ [0]).getD i 0) (c : decOK A) : seg ρ n 16 = qL (decQ A) ∧ ρ (n + 16) = 1 := by
  rw [if_pos c] at h
  obtain ⟨h1, h2⟩ := splitN (R := [1]) (qL_len (decQ A)) h
  exact ⟨h1, h2 0 (by decide)⟩
theorem read_no {ρ : Nat → Int} {n : Nat} {A : Int} (h : ∀ i, i < 17 → ρ (n + i) = (if decOK A then qL (decQ A) ++ [1] else List.replicate 16 0 ++ [0]).getD i 0) (c : ¬ decOK A) : ρ (n + 16) = 0 := by
  rw [if_neg c] at h
  exact h 16 (by decide)
theorem z33 : List.replicate 32 0 ++ [3] = dg 256 32 0 ++ [3] := by decide
theorem z65 : List.replicate 32 0 ++ (List.replicate 32 0 ++ [3]) = dg 256 32 0 ++ (dg 256 32 0 ++ [3]) := by decide
def cPGood : Ctr := ⟨23, 88, [.arr .u8 32], [.bool]⟩
def cPZero : Ctr := ⟨32, 89, [], [.arr .u8 32]⟩
def cPBase : Ctr := ⟨14, 91, [], [.arr .u8 32]⟩
def cPAdd : Ctr := ⟨15, 92, [.arr .u8 32, .arr .u8 32], [.arr .u8 32, .int .i64]⟩
def cPNeg : Ctr := ⟨17, 93, [.arr .u8 32], [.arr .u8 32, .int .i64]⟩
def cPMul : Ctr := ⟨19, 94, [.arr .u8 32, .arr .u8 32], [.arr .u8 32, .int .i64]⟩
def cPAt : Ctr := ⟨21, 95, [.arr .u8 32], [.arr .u8 32, .arr .u8 32, .int .i64]⟩
theorem okPGood : CtrOK Try.prog pfns cPGood := by
  refine CtrOK.of okPT3 mixed (lf := 300) (d := 5) rfl fun w vs xs ha _ => ?_
  obtain ⟨v, a, rfl, rfl, ⟨la, -, ia⟩⟩ := open1 ha
  rw [show pfns.g cPGood.j [a] = [b2i (decide (decOK (dv 256 a)))] from rfl]
  refine Go.Sx.Way.of (dec := []) (fs := [.need 87 [[.v 0, .v 1, .v 2, .v 3, .v 4, .v 5, .v 6, .v 7, .v 8, .v 9, .v 10, .v 11, .v 12, .v 13, .v 14, .v 15, .v 16, .v 17, .v 18, .v 19, .v 20, .v 21, .v 22, .v 23, .v 24, .v 25, .v 26, .v 27, .v 28, .v 29, .v 30, .v 31]], .call 32 87 [[.v 0, .v 1, .v 2, .v 3, .v 4, .v 5, .v 6, .v 7, .v 8, .v 9, .v 10, .v 11, .v 12, .v 13, .v 14, .v 15, .v 16, .v 17, .v 18, .v 19, .v 20, .v 21, .v 22, .v 23, .v 24, .v 25, .v 26, .v 27, .v 28, .v 29, .v 30, .v 31]] 17]) (refs := [.v 48]) (by kernel_rfl) fun ρ hρ hd => ?_
  have ea := seg0 la hρ
  simp only [D_nil, D_add, D_sub, D_mul, D_and, D_or, D_xor, D_shl, D_shr, D_andNot, D_quo, D_rem, D_add_i64, D_sub_i64, D_mul_i64, D_add_u32, D_sub_u32, D_mul_u32, D_add_u8, D_sub_u8, D_mul_u8, D_eql, D_neq, D_lss, D_leq, D_gtr, D_geq, D_not, D_conv, D_eqs, D_call, D_cond, D_need, D_idx, D_sel, D_upd, D_shv, D_beq, List.map_cons, List.map_nil, Ref.den] at hd
  obtain ⟨h32, -⟩ := hd
  have h32 : ∀ i, i < 17 → ρ (32 + i) = (if decOK (dv 256 (seg ρ 0 32)) then qL (decQ (dv 256 (seg ρ 0 32))) ++ [1] else List.replicate 16 0 ++ [0]).getD i 0 := h32
  rw [ea] at h32
  refine ⟨by simp only [G_nil, G_bin, G_cmp, G_not, G_conv, G_eqs, G_call, G_cond, G_need, G_idx, G_sel, G_upd, G_shv, G_beq, List.map_cons, List.map_nil, Ref.den]; exact ⟨trivial, trivial⟩, ?_⟩
  show [ρ 48] = _
  by_cases c : decOK (dv 256 a)
  · rw [decide_eq_true c, (read_yes h32 c).2]; rfl
  · rw [decide_eq_false c, (read_no h32 c)]; rfl
theorem Rep.enc {q : Q4} {p : Int × Int} (h : Rep q p) : encQ q = Go.Bx.enc p := by
  unfold encQ Go.Bx.enc; rw [h.aff.1, h.aff.2]
theorem Rep.at_ {p : Int × Int} {X Y T : Int} (hX : X % PP = p.1 % PP) (hY : Y % PP = p.2 % PP) (hT : T % PP = (p.1 * p.2) % PP) (on : onC p) (c : cn p) : Rep ⟨X, Y, 1, T⟩ p :=
  ⟨not_one, by simp only [Int.mul_one]; exact hX, by simp only [Int.mul_one]; exact hY, by simp only [Int.mul_one]; exact hT, on, c⟩
theorem okPZero : CtrOK Try.prog pfns cPZero := by
  refine CtrOK.of okPT3 mixed (lf := 300) (d := 5) rfl fun w vs xs ha _ => ?_
  rw [show pfns.g cPZero.j xs = dg 256 32 1 from rfl]
  refine Go.Sx.Way.of (dec := []) (fs := [.need 86 [[.l 0, .l 0, .l 0, .l 0, .l 1, .l 0, .l 0, .l 0, .l 1, .l 0, .l 0, .l 0, .l 0, .l 0, .l 0, .l 0]], .call 0 86 [[.l 0, .l 0, .l 0, .l 0, .l 1, .l 0, .l 0, .l 0, .l 1, .l 0, .l 0, .l 0, .l 0, .l 0, .l 0, .l 0]] 32]) (refs := [.v 0, .v 1, .v 2, .v 3, .v 4, .v 5, .v 6, .v 7, .v 8, .v 9, .v 10, .v 11, .v 12, .v 13, .v 14, .v 15, .v 16, .v 17, .v 18, .v 19, .v 20, .v 21, .v 22, .v 23, .v 24, .v 25, .v 26, .v 27, .v 28, .v 29, .v 30, .v 31]) (by kernel_rfl) fun ρ hρ hd => ?_
  simp only [D_nil, D_add, D_sub, D_mul, D_and, D_or, D_xor, D_shl, D_shr, D_andNot, D_quo, D_rem, D_add_i64, D_sub_i64, D_mul_i64, D_add_u32, D_sub_u32, D_mul_u32, D_add_u8, D_sub_u8, D_mul_u8, D_eql, D_neq, D_lss, D_leq, D_gtr, D_geq, D_not, D_conv, D_eqs, D_call, D_cond, D_need, D_idx, D_sel, D_upd, D_shv, D_beq, List.map_cons, List.map_nil, Ref.den] at hd
  obtain ⟨h0, -⟩ := hd
  have s0 : seg ρ 0 32 = dg 256 32 (encQ (Lq [0, 0, 0, 0, 1, 0, 0, 0, 1, 0, 0, 0, 0, 0, 0, 0])) := seg_of h0 (dg_len _ _ _)
  rw [show Lq [0, 0, 0, 0, 1, 0, 0, 0, 1, 0, 0, 0, 0, 0, 0, 0] = ⟨0, 1, 1, 0⟩ from by simp only [Lq, List.take, List.drop, dv, MM]; rfl, Rep.enc Rep.zero] at s0
  refine ⟨by simp only [G_nil, G_bin, G_cmp, G_not, G_conv, G_eqs, G_call, G_cond, G_need, G_idx, G_sel, G_upd, G_shv, G_beq, List.map_cons, List.map_nil, Ref.den]; exact ⟨trivial, trivial⟩, ?_⟩
  exact s0.trans (congrArg _ (by decide))
theorem okPBase : CtrOK Try.prog pfns cPBase := by
  refine CtrOK.of okPT3 mixed (lf := 300) (d := 5) rfl fun w vs xs ha _ => ?_
  rw [show pfns.g cPBase.j xs = dg 256 32 (enc BP) from rfl]
  refine Go.Sx.Way.of (dec := []) (fs := [.need 18 [[.l 14507833142362363162, .l 7578651490590762930, .l 13881468655802702940, .l 2407515759118799870], [.l 7378697629483820632, .l 7378697629483820646, .l 7378697629483820646, .l 7378697629483820646]], .call 0 18 [[.l 14507833142362363162, .l 7578651490590762930, .l 13881468655802702940, .l 2407515759118799870], [.l 7378697629483820632, .l 7378697629483820646, .l 7378697629483820646, .l 7378697629483820646]] 4, .need 86 [[.l 14507833142362363162, .l 7578651490590762930, .l 13881468655802702940, .l 2407515759118799870, .l 7378697629483820632, .l 7378697629483820646, .l 7378697629483820646, .l 7378697629483820646, .l 1, .l 0, .l 0, .l 0, .v 0, .v 1, .v 2, .v 3]], .call 4 86 [[.l 14507833142362363162, .l 7578651490590762930, .l 13881468655802702940, .l 2407515759118799870, .l 7378697629483820632, .l 7378697629483820646, .l 7378697629483820646, .l 7378697629483820646, .l 1, .l 0, .l 0, .l 0, .v 0, .v 1, .v 2, .v 3]] 32]) (refs := [.v 4, .v 5, .v 6, .v 7, .v 8, .v 9, .v 10, .v 11, .v 12, .v 13, .v 14, .v 15, .v 16, .v 17, .v 18, .v 19, .v 20, .v 21, .v 22, .v 23, .v 24, .v 25, .v 26, .v 27, .v 28, .v 29, .v 30, .v 31, .v 32, .v 33, .v 34, .v 35]) (by kernel_rfl) fun ρ hρ hd => ?_
  simp only [D_nil, D_add, D_sub, D_mul, D_and, D_or, D_xor, D_shl, D_shr, D_andNot, D_quo, D_rem, D_add_i64, D_sub_i64, D_mul_i64, D_add_u32, D_sub_u32, D_mul_u32, D_add_u8, D_sub_u8, D_mul_u8, D_eql, D_neq, D_lss, D_leq, D_gtr, D_geq, D_not, D_conv, D_eqs, D_call, D_cond, D_need, D_idx, D_sel, D_upd, D_shv, D_beq, List.map_cons, List.map_nil, Ref.den] at hd
  obtain ⟨h0, h4, -⟩ := hd
  have s0 : seg ρ 0 4 = dg MM 4 (timesZ (dv MM [14507833142362363162, 7578651490590762930, 13881468655802702940, 2407515759118799870]) (dv MM [7378697629483820632, 7378697629483820646, 7378697629483820646, 7378697629483820646])) := seg_of h0 (dg_len _ _ _)
  have d1 : dv MM [14507833142362363162, 7578651490590762930, 13881468655802702940, 2407515759118799870] = BP.1 := by decide
  have d2 : dv MM [7378697629483820632, 7378697629483820646, 7378697629483820646, 7378697629483820646] = BP.2 := by decide
  rw [d1, d2] at s0
  have b0 := timesZ_bd (A := BP.1) (B := BP.2) (by decide) (by decide) (by decide) (by decide)
  have e0 : dv MM (seg ρ 0 4) = timesZ BP.1 BP.2 := by rw [s0, dvW b0.1 b0.2]
  have s4 : seg ρ 4 32 = dg 256 32 (encQ (Lq [14507833142362363162, 7578651490590762930, 13881468655802702940, 2407515759118799870, 7378697629483820632, 7378697629483820646, 7378697629483820646, 7378697629483820646, 1, 0, 0, 0, ρ 0, ρ 1, ρ 2, ρ 3])) := seg_of h4 (dg_len _ _ _)
  have eL : Lq [14507833142362363162, 7578651490590762930, 13881468655802702940, 2407515759118799870, 7378697629483820632, 7378697629483820646, 7378697629483820646, 7378697629483820646, 1, 0, 0, 0, ρ 0, ρ 1, ρ 2, ρ 3] = ⟨BP.1, BP.2, 1, timesZ BP.1 BP.2⟩ := by
    show (⟨dv MM [14507833142362363162, 7578651490590762930, 13881468655802702940, 2407515759118799870], dv MM [7378697629483820632, 7378697629483820646, 7378697629483820646, 7378697629483820646], dv MM [1, 0, 0, 0], dv MM (seg ρ 0 4)⟩ : Q4) = _
    rw [d1, d2, e_one, e0]
  rw [eL, Rep.enc (Rep.at_ (p := BP) rfl rfl (timesZ_mod _ _) BP_on BP_cn)] at s4
  refine ⟨by simp only [G_nil, G_bin, G_cmp, G_not, G_conv, G_eqs, G_call, G_cond, G_need, G_idx, G_sel, G_upd, G_shv, G_beq, List.map_cons, List.map_nil, Ref.den]; exact ⟨trivial, trivial, trivial⟩, ?_⟩
  exact s4
theorem okPAdd : CtrOK Try.prog pfns cPAdd := by
  refine CtrOK.of okPT3 mixed (lf := 300) (d := 5) rfl fun w vs xs ha _ => ?_
  obtain ⟨v, u, a, b, rfl, rfl, ⟨la, -, ia⟩, ⟨lb, -, ib⟩⟩ := open2 ha
  rw [show pfns.g cPAdd.j [a, b] = (if decOK (dv 256 a) ∧ decOK (dv 256 b) then dg 256 32 (encQ (plusQ (decQ (dv 256 a)) (decQ (dv 256 b)))) ++ [0] else dg 256 32 0 ++ [3]) from rfl]
  by_cases c1 : decOK (dv 256 a)
  · by_cases c2 : decOK (dv 256 b)
    · rw [if_pos ⟨c1, c2⟩]
      refine Go.Sx.Way.of (dec := [false,false]) (fs := [.need 87 [[.v 0, .v 1, .v 2, .v 3, .v 4, .v 5, .v 6, .v 7, .v 8, .v 9, .v 10, .v 11, .v 12, .v 13, .v 14, .v 15, .v 16, .v 17, .v 18, .v 19, .v 20, .v 21, .v 22, .v 23, .v 24, .v 25, .v 26, .v 27, .v 28, .v 29, .v 30, .v 31]], .call 64 87 [[.v 0, .v 1, .v 2, .v 3, .v 4, .v 5, .v 6, .v 7, .v 8, .v 9, .v 10, .v 11, .v 12, .v 13, .v 14, .v 15, .v 16, .v 17, .v 18, .v 19, .v 20, .v 21, .v 22, .v 23, .v 24, .v 25, .v 26, .v 27, .v 28, .v 29, .v 30, .v 31]] 17, .need 87 [[.v 32, .v 33, .v 34, .v 35, .v 36, .v 37, .v 38, .v 39, .v 40, .v 41, .v 42, .v 43, .v 44, .v 45, .v 46, .v 47, .v 48, .v 49, .v 50, .v 51, .v 52, .v 53, .v 54, .v 55, .v 56, .v 57, .v 58, .v 59, .v 60, .v 61, .v 62, .v 63]], .call 81 87 [[.v 32, .v 33, .v 34, .v 35, .v 36, .v 37, .v 38, .v 39, .v 40, .v 41, .v 42, .v 43, .v 44, .v 45, .v 46, .v 47, .v 48, .v 49, .v 50, .v 51, .v 52, .v 53, .v 54, .v 55, .v 56, .v 57, .v 58, .v 59, .v 60, .v 61, .v 62, .v 63]] 17, .not 98 (.v 80), .cond 98 false, .not 99 (.v 97), .cond 99 false, .need 83 [[.v 64, .v 65, .v 66, .v 67, .v 68, .v 69, .v 70, .v 71, .v 72, .v 73, .v 74, .v 75, .v 76, .v 77, .v 78, .v 79], [.v 81, .v 82, .v 83, .v 84, .v 85, .v 86, .v 87, .v 88, .v 89, .v 90, .v 91, .v 92, .v 93, .v 94, .v 95, .v 96]], .call 100 83 [[.v 64, .v 65, .v 66, .v 67, .v 68, .v 69, .v 70, .v 71, .v 72, .v 73, .v 74, .v 75, .v 76, .v 77, .v 78, .v 79], [.v 81, .v 82, .v 83, .v 84, .v 85, .v 86, .v 87, .v 88, .v 89, .v 90, .v 91, .v 92, .v 93, .v 94, .v 95, .v 96]] 16, .need 86 [[.v 100, .v 101, .v 102, .v 103, .v 104, .v 105, .v 106, .v 107, .v 108, .v 109, .v 110, .v 111, .v 112, .v 113, .v 114, .v 115]], .call 116 86 [[.v 100, .v 101, .v 102, .v 103, .v 104, .v 105, .v 106, .v 107, .v 108, .v 109, .v 110, .v 111, .v 112, .v 113, .v 114, .v 115]] 32]) (refs := [.v 116, .v 117, .v 118, .v 119, .v 120, .v 121, .v 122, .v 123, .v 124, .v 125, .v 126, .v 127, .v 128, .v 129, .v 130, .v 131, .v 132, .v 133, .v 134, .v 135, .v 136, .v 137, .v 138, .v 139, .v 140, .v 141, .v 142, .v 143, .v 144, .v 145, .v 146, .v 147, .l 0]) (by kernel_rfl) fun ρ hρ hd => ?_
      obtain ⟨ea, eb⟩ := seg2 la lb hρ
      simp only [D_nil, D_add, D_sub, D_mul, D_and, D_or, D_xor, D_shl, D_shr, D_andNot, D_quo, D_rem, D_add_i64, D_sub_i64, D_mul_i64, D_add_u32, D_sub_u32, D_mul_u32, D_add_u8, D_sub_u8, D_mul_u8, D_eql, D_neq, D_lss, D_leq, D_gtr, D_geq, D_not, D_conv, D_eqs, D_call, D_cond, D_need, D_idx, D_sel, D_upd, D_shv, D_beq, List.map_cons, List.map_nil, Ref.den] at hd
      obtain ⟨h64, h81, h98, h99, h100, h116, -⟩ := hd
      obtain ⟨s64, k80⟩ := read_yes (A := dv 256 (seg ρ 0 32)) h64 (by rw [ea]; exact c1)
      obtain ⟨s81, k97⟩ := read_yes (A := dv 256 (seg ρ 32 32)) h81 (by rw [eb]; exact c2)
      have k98 := not_bit h98 k80
      have k99 := not_bit h99 k97
      have s100 : seg ρ 100 16 = qL (plusQ (Lq (seg ρ 64 16)) (Lq (seg ρ 81 16))) := seg_of h100 (qL_len _)
      have s116 : seg ρ 116 32 = dg 256 32 (encQ (Lq (seg ρ 100 16))) := seg_of h116 (dg_len _ _ _)
      rw [s64, s81, Lq_qL (decQ_bd _), Lq_qL (decQ_bd _), ea, eb] at s100
      rw [s100, Lq_qL (plusQ_bd (decQ_bd _) (decQ_bd _))] at s116
      refine ⟨by simp only [G_nil, G_bin, G_cmp, G_not, G_conv, G_eqs, G_call, G_cond, G_need, G_idx, G_sel, G_upd, G_shv, G_beq, List.map_cons, List.map_nil, Ref.den]; exact ⟨trivial, trivial, k98, k99, trivial, trivial, trivial⟩, ?_⟩
      show seg ρ 116 32 ++ [0] = _
      rw [s116]
    · rw [if_neg (fun h => c2 h.2)]
      refine Go.Sx.Way.of (dec := [false,true]) (fs := [.need 87 [[.v 0, .v 1, .v 2, .v 3, .v 4, .v 5, .v 6, .v 7, .v 8, .v 9, .v 10, .v 11, .v 12, .v 13, .v 14, .v 15, .v 16, .v 17, .v 18, .v 19, .v 20, .v 21, .v 22, .v 23, .v 24, .v 25, .v 26, .v 27, .v 28, .v 29, .v 30, .v 31]], .call 64 87 [[.v 0, .v 1, .v 2, .v 3, .v 4, .v 5, .v 6, .v 7, .v 8, .v 9, .v 10, .v 11, .v 12, .v 13, .v 14, .v 15, .v 16, .v 17, .v 18, .v 19, .v 20, .v 21, .v 22, .v 23, .v 24, .v 25, .v 26, .v 27, .v 28, .v 29, .v 30, .v 31]] 17, .need 87 [[.v 32, .v 33, .v 34, .v 35, .v 36, .v 37, .v 38, .v 39, .v 40, .v 41, .v 42, .v 43, .v 44, .v 45, .v 46, .v 47, .v 48, .v 49, .v 50, .v 51, .v 52, .v 53, .v 54, .v 55, .v 56, .v 57, .v 58, .v 59, .v 60, .v 61, .v 62, .v 63]], .call 81 87 [[.v 32, .v 33, .v 34, .v 35, .v 36, .v 37, .v 38, .v 39, .v 40, .v 41, .v 42, .v 43, .v 44, .v 45, .v 46, .v 47, .v 48, .v 49, .v 50, .v 51, .v 52, .v 53, .v 54, .v 55, .v 56, .v 57, .v 58, .v 59, .v 60, .v 61, .v 62, .v 63]] 17, .not 98 (.v 80), .cond 98 false, .not 99 (.v 97), .cond 99 true]) (refs := [.l 0, .l 0, .l 0, .l 0, .l 0, .l 0, .l 0, .l 0, .l 0, .l 0, .l 0, .l 0, .l 0, .l 0, .l 0, .l 0, .l 0, .l 0, .l 0, .l 0, .l 0, .l 0, .l 0, .l 0, .l 0, .l 0, .l 0, .l 0, .l 0, .l 0, .l 0, .l 0, .l 3]) (by kernel_rfl) fun ρ hρ hd => ?_
      obtain ⟨ea, eb⟩ := seg2 la lb hρ
      simp only [D_nil, D_add, D_sub, D_mul, D_and, D_or, D_xor, D_shl, D_shr, D_andNot, D_quo, D_rem, D_add_i64, D_sub_i64, D_mul_i64, D_add_u32, D_sub_u32, D_mul_u32, D_add_u8, D_sub_u8, D_mul_u8, D_eql, D_neq, D_lss, D_leq, D_gtr, D_geq, D_not, D_conv, D_eqs, D_call, D_cond, D_need, D_idx, D_sel, D_upd, D_shv, D_beq, List.map_cons, List.map_nil, Ref.den] at hd
      obtain ⟨h64, h81, h98, h99, -⟩ := hd
      obtain ⟨s64, k80⟩ := read_yes (A := dv 256 (seg ρ 0 32)) h64 (by rw [ea]; exact c1)
      have k97 := read_no (A := dv 256 (seg ρ 32 32)) h81 (by rw [eb]; exact c2)
      have k98 := not_bit h98 k80
      have k99 : decide (ρ 99 ≠ 0) = true := by rw [not_bit0 h99 k97]; rfl
      exact ⟨by simp only [G_nil, G_bin, G_cmp, G_not, G_conv, G_eqs, G_call, G_cond, G_need, G_idx, G_sel, G_upd, G_shv, G_beq, List.map_cons, List.map_nil, Ref.den]; exact ⟨trivial, trivial, k98, k99, trivial⟩, z33⟩
  · rw [if_neg (fun h => c1 h.1)]
    refine Go.Sx.Way.of (dec := [true]) (fs := [.need 87 [[.v 0, .v 1, .v 2, .v 3, .v 4, .v 5, .v 6, .v 7, .v 8, .v 9, .v 10, .v 11, .v 12, .v 13, .v 14, .v 15, .v 16, .v 17, .v 18, .v 19, .v 20, .v 21, .v 22, .v 23, .v 24, .v 25, .v 26, .v 27, .v 28, .v 29, .v 30, .v 31]], .call 64 87 [[.v 0, .v 1, .v 2, .v 3, .v 4, .v 5, .v 6, .v 7, .v 8, .v 9, .v 10, .v 11, .v 12, .v 13, .v 14, .v 15, .v 16, .v 17, .v 18, .v 19, .v 20, .v 21, .v 22, .v 23, .v 24, .v 25, .v 26, .v 27, .v 28, .v 29, .v 30, .v 31]] 17, .need 87 [[.v 32, .v 33, .v 34, .v 35, .v 36, .v 37, .v 38, .v 39, .v 40, .v 41, .v 42, .v 43, .v 44, .v 45, .v 46, .v 47, .v 48, .v 49, .v 50, .v 51, .v 52, .v 53, .v 54, .v 55, .v 56, .v 57, .v 58, .v 59, .v 60, .v 61, .v 62, .v 63]], .call 81 87 [[.v 32, .v 33, .v 34, .v 35, .v 36, .v 37, .v 38, .v 39, .v 40, .v 41, .v 42, .v 43, .v 44, .v 45, .v 46, .v 47, .v 48, .v 49, .v 50, .v 51, .v 52, .v 53, .v 54, .v 55, .v 56, .v 57, .v 58, .v 59, .v 60, .v 61, .v 62, .v 63]] 17, .not 98 (.v 80), .cond 98 true]) (refs := [.l 0, .l 0, .l 0, .l 0, .l 0, .l 0, .l 0, .l 0, .l 0, .l 0, .l 0, .l 0, .l 0, .l 0, .l 0, .l 0, .l 0, .l 0, .l 0, .l 0, .l 0, .l 0, .l 0, .l 0, .l 0, .l 0, .l 0, .l 0, .l 0, .l 0, .l 0, .l 0, .l 3]) (by kernel_rfl) fun ρ hρ hd => ?_
    obtain ⟨ea, eb⟩ := seg2 la lb hρ
    simp only [D_nil, D_add, D_sub, D_mul, D_and, D_or, D_xor, D_shl, D_shr, D_andNot, D_quo, D_rem, D_add_i64, D_sub_i64, D_mul_i64, D_add_u32, D_sub_u32, D_mul_u32, D_add_u8, D_sub_u8, D_mul_u8, D_eql, D_neq, D_lss, D_leq, D_gtr, D_geq, D_not, D_conv, D_eqs, D_call, D_cond, D_need, D_idx, D_sel, D_upd, D_shv, D_beq, List.map_cons, List.map_nil, Ref.den] at hd
    obtain ⟨h64, h81, h98, -⟩ := hd
    have k80 := read_no (A := dv 256 (seg ρ 0 32)) h64 (by rw [ea]; exact c1)
    have k98 : decide (ρ 98 ≠ 0) = true := by rw [not_bit0 h98 k80]; rfl
    exact ⟨by simp only [G_nil, G_bin, G_cmp, G_not, G_conv, G_eqs, G_call, G_cond, G_need, G_idx, G_sel, G_upd, G_shv, G_beq, List.map_cons, List.map_nil, Ref.den]; exact ⟨trivial, trivial, k98, trivial⟩, z33⟩
theorem okPNeg : CtrOK Try.prog pfns cPNeg := by
  refine CtrOK.of okPT3 mixed (lf := 300) (d := 5) rfl fun w vs xs ha _ => ?_
  obtain ⟨v, a, rfl, rfl, ⟨la, -, ia⟩⟩ := open1 ha
  rw [show pfns.g cPNeg.j [a] = (if decOK (dv 256 a) then dg 256 32 (encQ (negQ (decQ (dv 256 a)))) ++ [0] else dg 256 32 0 ++ [3]) from rfl]
  by_cases c1 : decOK (dv 256 a)
  · rw [if_pos c1]
    refine Go.Sx.Way.of (dec := [false]) (fs := [.need 87 [[.v 0, .v 1, .v 2, .v 3, .v 4, .v 5, .v 6, .v 7, .v 8, .v 9, .v 10, .v 11, .v 12, .v 13, .v 14, .v 15, .v 16, .v 17, .v 18, .v 19, .v 20, .v 21, .v 22, .v 23, .v 24, .v 25, .v 26, .v 27, .v 28, .v 29, .v 30, .v 31]], .call 32 87 [[.v 0, .v 1, .v 2, .v 3, .v 4, .v 5, .v 6, .v 7, .v 8, .v 9, .v 10, .v 11, .v 12, .v 13, .v 14, .v 15, .v 16, .v 17, .v 18, .v 19, .v 20, .v 21, .v 22, .v 23, .v 24, .v 25, .v 26, .v 27, .v 28, .v 29, .v 30, .v 31]] 17, .not 49 (.v 48), .cond 49 false, .need 16 [[.l 0, .l 0, .l 0, .l 0], [.v 32, .v 33, .v 34, .v 35]], .call 50 16 [[.l 0, .l 0, .l 0, .l 0], [.v 32, .v 33, .v 34, .v 35]] 4, .need 18 [[.v 50, .v 51, .v 52, .v 53], [.v 36, .v 37, .v 38, .v 39]], .call 54 18 [[.v 50, .v 51, .v 52, .v 53], [.v 36, .v 37, .v 38, .v 39]] 4, .need 86 [[.v 50, .v 51, .v 52, .v 53, .v 36, .v 37, .v 38, .v 39, .l 1, .l 0, .l 0, .l 0, .v 54, .v 55, .v 56, .v 57]], .call 58 86 [[.v 50, .v 51, .v 52, .v 53, .v 36, .v 37, .v 38, .v 39, .l 1, .l 0, .l 0, .l 0, .v 54, .v 55, .v 56, .v 57]] 32]) (refs := [.v 58, .v 59, .v 60, .v 61, .v 62, .v 63, .v 64, .v 65, .v 66, .v 67, .v 68, .v 69, .v 70, .v 71, .v 72, .v 73, .v 74, .v 75, .v 76, .v 77, .v 78, .v 79, .v 80, .v 81, .v 82, .v 83, .v 84, .v 85, .v 86, .v 87, .v 88, .v 89, .l 0]) (by kernel_rfl) fun ρ hρ hd => ?_
    have ea := seg0 la hρ
    simp only [D_nil, D_add, D_sub, D_mul, D_and, D_or, D_xor, D_shl, D_shr, D_andNot, D_quo, D_rem, D_add_i64, D_sub_i64, D_mul_i64, D_add_u32, D_sub_u32, D_mul_u32, D_add_u8, D_sub_u8, D_mul_u8, D_eql, D_neq, D_lss, D_leq, D_gtr, D_geq, D_not, D_conv, D_eqs, D_call, D_cond, D_need, D_idx, D_sel, D_upd, D_shv, D_beq, List.map_cons, List.map_nil, Ref.den] at hd
    obtain ⟨h32, h49, h50, h54, h58, -⟩ := hd
    obtain ⟨s32, k48⟩ := read_yes (A := dv 256 (seg ρ 0 32)) h32 (by rw [ea]; exact c1)
    have k49 := not_bit h49 k48
    rw [ea] at s32
    have hQ := Lq_qL (decQ_bd (dv 256 a))
    rw [← s32] at hQ
    have bq := decQ_bd (dv 256 a)
    generalize decQ (dv 256 a) = q at *
    have hx : dv MM (seg ρ 32 4) = q.x := congrArg Q4.x hQ
    have hy : dv MM (seg ρ 36 4) = q.y := congrArg Q4.y hQ
    have s50 : seg ρ 50 4 = dg MM 4 (minZ (dv MM [0, 0, 0, 0]) (dv MM (seg ρ 32 4))) := seg_of h50 (dg_len _ _ _)
    obtain ⟨e50, b50⟩ := fm s50 bZ (by rw [hx]; exact bq.1)
    have s54 : seg ρ 54 4 = dg MM 4 (timesZ (dv MM (seg ρ 50 4)) (dv MM (seg ρ 36 4))) := seg_of h54 (dg_len _ _ _)
    obtain ⟨e54, b54⟩ := ft s54 b50 (by rw [hy]; exact bq.2.1)
    have s58 : seg ρ 58 32 = dg 256 32 (encQ (Lq (seg ρ 50 4 ++ (seg ρ 36 4 ++ ([1, 0, 0, 0] ++ seg ρ 54 4))))) := seg_of h58 (dg_len _ _ _)
    have eL : Lq (seg ρ 50 4 ++ (seg ρ 36 4 ++ ([1, 0, 0, 0] ++ seg ρ 54 4))) = negQ q := by
      show (⟨dv MM (seg ρ 50 4), dv MM (seg ρ 36 4), dv MM [1, 0, 0, 0], dv MM (seg ρ 54 4)⟩ : Q4) = _
      rw [e54, e50, hx, hy, e_one, e_nil]; rfl
    rw [eL] at s58
    refine ⟨by simp only [G_nil, G_bin, G_cmp, G_not, G_conv, G_eqs, G_call, G_cond, G_need, G_idx, G_sel, G_upd, G_shv, G_beq, List.map_cons, List.map_nil, Ref.den]; exact ⟨trivial, k49, trivial, trivial, trivial, trivial⟩, ?_⟩
    show seg ρ 58 32 ++ [0] = _
    rw [s58]
  · rw [if_neg c1]
    refine Go.Sx.Way.of (dec := [true]) (fs := [.need 87 [[.v 0, .v 1, .v 2, .v 3, .v 4, .v 5, .v 6, .v 7, .v 8, .v 9, .v 10, .v 11, .v 12, .v 13, .v 14, .v 15, .v 16, .v 17, .v 18, .v 19, .v 20, .v 21, .v 22, .v 23, .v 24, .v 25, .v 26, .v 27, .v 28, .v 29, .v 30, .v 31]], .call 32 87 [[.v 0, .v 1, .v 2, .v 3, .v 4, .v 5, .v 6, .v 7, .v 8, .v 9, .v 10, .v 11, .v 12, .v 13, .v 14, .v 15, .v 16, .v 17, .v 18, .v 19, .v 20, .v 21, .v 22, .v 23, .v 24, .v 25, .v 26, .v 27, .v 28, .v 29, .v 30, .v 31]] 17, .not 49 (.v 48), .cond 49 true]) (refs := [.l 0, .l 0, .l 0, .l 0, .l 0, .l 0, .l 0, .l 0, .l 0, .l 0, .l 0, .l 0, .l 0, .l 0, .l 0, .l 0, .l 0, .l 0, .l 0, .l 0, .l 0, .l 0, .l 0, .l 0, .l 0, .l 0, .l 0, .l 0, .l 0, .l 0, .l 0, .l 0, .l 3]) (by kernel_rfl) fun ρ hρ hd => ?_
    have ea := seg0 la hρ
    simp only [D_nil, D_add, D_sub, D_mul, D_and, D_or, D_xor, D_shl, D_shr, D_andNot, D_quo, D_rem, D_add_i64, D_sub_i64, D_mul_i64, D_add_u32, D_sub_u32, D_mul_u32, D_add_u8, D_sub_u8, D_mul_u8, D_eql, D_neq, D_lss, D_leq, D_gtr, D_geq, D_not, D_conv, D_eqs, D_call, D_cond, D_need, D_idx, D_sel, D_upd, D_shv, D_beq, List.map_cons, List.map_nil, Ref.den] at hd
    obtain ⟨h32, h49, -⟩ := hd
    have k48 := read_no (A := dv 256 (seg ρ 0 32)) h32 (by rw [ea]; exact c1)
    have k49 : decide (ρ 49 ≠ 0) = true := by rw [not_bit0 h49 k48]; rfl
    exact ⟨by simp only [G_nil, G_bin, G_cmp, G_not, G_conv, G_eqs, G_call, G_cond, G_need, G_idx, G_sel, G_upd, G_shv, G_beq, List.map_cons, List.map_nil, Ref.den]; exact ⟨trivial, k49, trivial⟩, z33⟩
theorem okPMul : CtrOK Try.prog pfns cPMul := by
  refine CtrOK.of okPT3 mixed (lf := 300) (d := 5) rfl fun w vs xs ha _ => ?_
  obtain ⟨v, u, n, a, rfl, rfl, ⟨ln, -, _⟩, ⟨la, -, ia⟩⟩ := open2 ha
  rw [show pfns.g cPMul.j [n, a] = (if decOK (dv 256 a) then dg 256 32 (encQ (mulQ (decQ (dv 256 a)) (dv 256 n) 256)) ++ [0] else dg 256 32 0 ++ [3]) from rfl]
  by_cases c1 : decOK (dv 256 a)
  · rw [if_pos c1]
    refine Go.Sx.Way.of (dec := [false]) (fs := [.need 87 [[.v 32, .v 33, .v 34, .v 35, .v 36, .v 37, .v 38, .v 39, .v 40, .v 41, .v 42, .v 43, .v 44, .v 45, .v 46, .v 47, .v 48, .v 49, .v 50, .v 51, .v 52, .v 53, .v 54, .v 55, .v 56, .v 57, .v 58, .v 59, .v 60, .v 61, .v 62, .v 63]], .call 64 87 [[.v 32, .v 33, .v 34, .v 35, .v 36, .v 37, .v 38, .v 39, .v 40, .v 41, .v 42, .v 43, .v 44, .v 45, .v 46, .v 47, .v 48, .v 49, .v 50, .v 51, .v 52, .v 53, .v 54, .v 55, .v 56, .v 57, .v 58, .v 59, .v 60, .v 61, .v 62, .v 63]] 17, .not 81 (.v 80), .cond 81 false, .need 84 [[.v 64, .v 65, .v 66, .v 67, .v 68, .v 69, .v 70, .v 71, .v 72, .v 73, .v 74, .v 75, .v 76, .v 77, .v 78, .v 79], [.v 0, .v 1, .v 2, .v 3, .v 4, .v 5, .v 6, .v 7, .v 8, .v 9, .v 10, .v 11, .v 12, .v 13, .v 14, .v 15, .v 16, .v 17, .v 18, .v 19, .v 20, .v 21, .v 22, .v 23, .v 24, .v 25, .v 26, .v 27, .v 28, .v 29, .v 30, .v 31]], .call 82 84 [[.v 64, .v 65, .v 66, .v 67, .v 68, .v 69, .v 70, .v 71, .v 72, .v 73, .v 74, .v 75, .v 76, .v 77, .v 78, .v 79], [.v 0, .v 1, .v 2, .v 3, .v 4, .v 5, .v 6, .v 7, .v 8, .v 9, .v 10, .v 11, .v 12, .v 13, .v 14, .v 15, .v 16, .v 17, .v 18, .v 19, .v 20, .v 21, .v 22, .v 23, .v 24, .v 25, .v 26, .v 27, .v 28, .v 29, .v 30, .v 31]] 16, .need 86 [[.v 82, .v 83, .v 84, .v 85, .v 86, .v 87, .v 88, .v 89, .v 90, .v 91, .v 92, .v 93, .v 94, .v 95, .v 96, .v 97]], .call 98 86 [[.v 82, .v 83, .v 84, .v 85, .v 86, .v 87, .v 88, .v 89, .v 90, .v 91, .v 92, .v 93, .v 94, .v 95, .v 96, .v 97]] 32]) (refs := [.v 98, .v 99, .v 100, .v 101, .v 102, .v 103, .v 104, .v 105, .v 106, .v 107, .v 108, .v 109, .v 110, .v 111, .v 112, .v 113, .v 114, .v 115, .v 116, .v 117, .v 118, .v 119, .v 120, .v 121, .v 122, .v 123, .v 124, .v 125, .v 126, .v 127, .v 128, .v 129, .l 0]) (by kernel_rfl) fun ρ hρ hd => ?_
    obtain ⟨en, ea⟩ := seg2 ln la hρ
    simp only [D_nil, D_add, D_sub, D_mul, D_and, D_or, D_xor, D_shl, D_shr, D_andNot, D_quo, D_rem, D_add_i64, D_sub_i64, D_mul_i64, D_add_u32, D_sub_u32, D_mul_u32, D_add_u8, D_sub_u8, D_mul_u8, D_eql, D_neq, D_lss, D_leq, D_gtr, D_geq, D_not, D_conv, D_eqs, D_call, D_cond, D_need, D_idx, D_sel, D_upd, D_shv, D_beq, List.map_cons, List.map_nil, Ref.den] at hd
    obtain ⟨h64, h81, h82, h98, -⟩ := hd
    obtain ⟨s64, k80⟩ := read_yes (A := dv 256 (seg ρ 32 32)) h64 (by rw [ea]; exact c1)
    have k81 := not_bit h81 k80
    have s82 : seg ρ 82 16 = qL (mulQ (Lq (seg ρ 64 16)) (dv 256 (seg ρ 0 32)) 256) := seg_of h82 (qL_len _)
    have s98 : seg ρ 98 32 = dg 256 32 (encQ (Lq (seg ρ 82 16))) := seg_of h98 (dg_len _ _ _)
    rw [s64, Lq_qL (decQ_bd _), en, ea] at s82
    rw [s82, Lq_qL (mulQ_bd (decQ_bd _) _ _)] at s98
    refine ⟨by simp only [G_nil, G_bin, G_cmp, G_not, G_conv, G_eqs, G_call, G_cond, G_need, G_idx, G_sel, G_upd, G_shv, G_beq, List.map_cons, List.map_nil, Ref.den]; exact ⟨trivial, k81, trivial, trivial, trivial⟩, ?_⟩
    show seg ρ 98 32 ++ [0] = _
    rw [s98]
  · rw [if_neg c1]
    refine Go.Sx.Way.of (dec := [true]) (fs := [.need 87 [[.v 32, .v 33, .v 34, .v 35, .v 36, .v 37, .v 38, .v 39, .v 40, .v 41, .v 42, .v 43, .v 44, .v 45, .v 46, .v 47, .v 48, .v 49, .v 50, .v 51, .v 52, .v 53, .v 54, .v 55, .v 56, .v 57, .v 58, .v 59, .v 60, .v 61, .v 62, .v 63]], .call 64 87 [[.v 32, .v 33, .v 34, .v 35, .v 36, .v 37, .v 38, .v 39, .v 40, .v 41, .v 42, .v 43, .v 44, .v 45, .v 46, .v 47, .v 48, .v 49, .v 50, .v 51, .v 52, .v 53, .v 54, .v 55, .v 56, .v 57, .v 58, .v 59, .v 60, .v 61, .v 62, .v 63]] 17, .not 81 (.v 80), .cond 81 true]) (refs := [.l 0, .l 0, .l 0, .l 0, .l 0, .l 0, .l 0, .l 0, .l 0, .l 0, .l 0, .l 0, .l 0, .l 0, .l 0, .l 0, .l 0, .l 0, .l 0, .l 0, .l 0, .l 0, .l 0, .l 0, .l 0, .l 0, .l 0, .l 0, .l 0, .l 0, .l 0, .l 0, .l 3]) (by kernel_rfl) fun ρ hρ hd => ?_
    obtain ⟨en, ea⟩ := seg2 ln la hρ
    simp only [D_nil, D_add, D_sub, D_mul, D_and, D_or, D_xor, D_shl, D_shr, D_andNot, D_quo, D_rem, D_add_i64, D_sub_i64, D_mul_i64, D_add_u32, D_sub_u32, D_mul_u32, D_add_u8, D_sub_u8, D_mul_u8, D_eql, D_neq, D_lss, D_leq, D_gtr, D_geq, D_not, D_conv, D_eqs, D_call, D_cond, D_need, D_idx, D_sel, D_upd, D_shv, D_beq, List.map_cons, List.map_nil, Ref.den] at hd
    obtain ⟨h64, h81, -⟩ := hd
    have k80 := read_no (A := dv 256 (seg ρ 32 32)) h64 (by rw [ea]; exact c1)
    have k81 : decide (ρ 81 ≠ 0) = true := by rw [not_bit0 h81 k80]; rfl
    exact ⟨by simp only [G_nil, G_bin, G_cmp, G_not, G_conv, G_eqs, G_call, G_cond, G_need, G_idx, G_sel, G_upd, G_shv, G_beq, List.map_cons, List.map_nil, Ref.den]; exact ⟨trivial, k81, trivial⟩, z33⟩
theorem okPAt : CtrOK Try.prog pfns cPAt := by
  refine CtrOK.of okPT3 mixed (lf := 300) (d := 5) rfl fun w vs xs ha _ => ?_
  obtain ⟨v, a, rfl, rfl, ⟨la, -, ia⟩⟩ := open1 ha
  rw [show pfns.g cPAt.j [a] = (if decOK (dv 256 a) then dg 256 32 (decX (dv 256 a) % PP) ++ (dg 256 32 (dv 256 a % H255) ++ [0]) else dg 256 32 0 ++ (dg 256 32 0 ++ [3])) from rfl]
  by_cases c1 : decOK (dv 256 a)
  · rw [if_pos c1]
    refine Go.Sx.Way.of (dec := [false]) (fs := [.need 87 [[.v 0, .v 1, .v 2, .v 3, .v 4, .v 5, .v 6, .v 7, .v 8, .v 9, .v 10, .v 11, .v 12, .v 13, .v 14, .v 15, .v 16, .v 17, .v 18, .v 19, .v 20, .v 21, .v 22, .v 23, .v 24, .v 25, .v 26, .v 27, .v 28, .v 29, .v 30, .v 31]], .call 32 87 [[.v 0, .v 1, .v 2, .v 3, .v 4, .v 5, .v 6, .v 7, .v 8, .v 9, .v 10, .v 11, .v 12, .v 13, .v 14, .v 15, .v 16, .v 17, .v 18, .v 19, .v 20, .v 21, .v 22, .v 23, .v 24, .v 25, .v 26, .v 27, .v 28, .v 29, .v 30, .v 31]] 17, .not 49 (.v 48), .cond 49 false, .need 13 [[.v 32, .v 33, .v 34, .v 35]], .call 50 13 [[.v 32, .v 33, .v 34, .v 35]] 32, .need 13 [[.v 36, .v 37, .v 38, .v 39]], .call 82 13 [[.v 36, .v 37, .v 38, .v 39]] 32]) (refs := [.v 50, .v 51, .v 52, .v 53, .v 54, .v 55, .v 56, .v 57, .v 58, .v 59, .v 60, .v 61, .v 62, .v 63, .v 64, .v 65, .v 66, .v 67, .v 68, .v 69, .v 70, .v 71, .v 72, .v 73, .v 74, .v 75, .v 76, .v 77, .v 78, .v 79, .v 80, .v 81, .v 82, .v 83, .v 84, .v 85, .v 86, .v 87, .v 88, .v 89, .v 90, .v 91, .v 92, .v 93, .v 94, .v 95, .v 96, .v 97, .v 98, .v 99, .v 100, .v 101, .v 102, .v 103, .v 104, .v 105, .v 106, .v 107, .v 108, .v 109, .v 110, .v 111, .v 112, .v 113, .l 0]) (by kernel_rfl) fun ρ hρ hd => ?_
    have ea := seg0 la hρ
    simp only [D_nil, D_add, D_sub, D_mul, D_and, D_or, D_xor, D_shl, D_shr, D_andNot, D_quo, D_rem, D_add_i64, D_sub_i64, D_mul_i64, D_add_u32, D_sub_u32, D_mul_u32, D_add_u8, D_sub_u8, D_mul_u8, D_eql, D_neq, D_lss, D_leq, D_gtr, D_geq, D_not, D_conv, D_eqs, D_call, D_cond, D_need, D_idx, D_sel, D_upd, D_shv, D_beq, List.map_cons, List.map_nil, Ref.den] at hd
    obtain ⟨h32, h49, h50, h82, -⟩ := hd
    obtain ⟨s32, k48⟩ := read_yes (A := dv 256 (seg ρ 0 32)) h32 (by rw [ea]; exact c1)
    have k49 := not_bit h49 k48
    rw [ea] at s32
    have hQ := Lq_qL (decQ_bd (dv 256 a))
    rw [← s32] at hQ
    have hx : dv MM (seg ρ 32 4) = decX (dv 256 a) := congrArg Q4.x hQ
    have hy : dv MM (seg ρ 36 4) = dv 256 a % H255 := congrArg Q4.y hQ
    have s50 : seg ρ 50 32 = dg 256 32 (dv MM (seg ρ 32 4) % PP) := seg_of h50 (dg_len _ _ _)
    have s82 : seg ρ 82 32 = dg 256 32 (dv MM (seg ρ 36 4) % PP) := seg_of h82 (dg_len _ _ _)
    have y0 := Int.emod_nonneg (dv 256 a) (b := H255) (by decide)
    rw [hx] at s50
    rw [hy, Int.emod_eq_of_lt y0 c1.1] at s82
    refine ⟨by simp only [G_nil, G_bin, G_cmp, G_not, G_conv, G_eqs, G_call, G_cond, G_need, G_idx, G_sel, G_upd, G_shv, G_beq, List.map_cons, List.map_nil, Ref.den]; exact ⟨trivial, k49, trivial, trivial, trivial⟩, ?_⟩
    show seg ρ 50 32 ++ (seg ρ 82 32 ++ [0]) = _
    rw [s50, s82]
  · rw [if_neg c1]
    refine Go.Sx.Way.of (dec := [true]) (fs := [.need 87 [[.v 0, .v 1, .v 2, .v 3, .v 4, .v 5, .v 6, .v 7, .v 8, .v 9, .v 10, .v 11, .v 12, .v 13, .v 14, .v 15, .v 16, .v 17, .v 18, .v 19, .v 20, .v 21, .v 22, .v 23, .v 24, .v 25, .v 26, .v 27, .v 28, .v 29, .v 30, .v 31]], .call 32 87 [[.v 0, .v 1, .v 2, .v 3, .v 4, .v 5, .v 6, .v 7, .v 8, .v 9, .v 10, .v 11, .v 12, .v 13, .v 14, .v 15, .v 16, .v 17, .v 18, .v 19, .v 20, .v 21, .v 22, .v 23, .v 24, .v 25, .v 26, .v 27, .v 28, .v 29, .v 30, .v 31]] 17, .not 49 (.v 48), .cond 49 true]) (refs := [.l 0, .l 0, .l 0, .l 0, .l 0, .l 0, .l 0, .l 0, .l 0, .l 0, .l 0, .l 0, .l 0, .l 0, .l 0, .l 0, .l 0, .l 0, .l 0, .l 0, .l 0, .l 0, .l 0, .l 0, .l 0, .l 0, .l 0, .l 0, .l 0, .l 0, .l 0, .l 0, .l 0, .l 0, .l 0, .l 0, .l 0, .l 0, .l 0, .l 0, .l 0, .l 0, .l 0, .l 0, .l 0, .l 0, .l 0, .l 0, .l 0, .l 0, .l 0, .l 0, .l 0, .l 0, .l 0, .l 0, .l 0, .l 0, .l 0, .l 0, .l 0, .l 0, .l 0, .l 0, .l 3]) (by kernel_rfl) fun ρ hρ hd => ?_
    have ea := seg0 la hρ
    simp only [D_nil, D_add, D_sub, D_mul, D_and, D_or, D_xor, D_shl, D_shr, D_andNot, D_quo, D_rem, D_add_i64, D_sub_i64, D_mul_i64, D_add_u32, D_sub_u32, D_mul_u32, D_add_u8, D_sub_u8, D_mul_u8, D_eql, D_neq, D_lss, D_leq, D_gtr, D_geq, D_not, D_conv, D_eqs, D_call, D_cond, D_need, D_idx, D_sel, D_upd, D_shv, D_beq, List.map_cons, List.map_nil, Ref.den] at hd
    obtain ⟨h32, h49, -⟩ := hd
    have k48 := read_no (A := dv 256 (seg ρ 0 32)) h32 (by rw [ea]; exact c1)
    have k49 : decide (ρ 49 ≠ 0) = true := by rw [not_bit0 h49 k48]; rfl
    exact ⟨by simp only [G_nil, G_bin, G_cmp, G_not, G_conv, G_eqs, G_call, G_cond, G_need, G_idx, G_sel, G_upd, G_shv, G_beq, List.map_cons, List.map_nil, Ref.den]; exact ⟨trivial, k49, trivial⟩, z65⟩
end Go.Proofs.Ytfobnajgnnccmaa

namespace Go.Bx
/-- A point in bytes. -/
def pe (p : Int × Int) : List Int := dg 256 32 (enc p)
theorem pe_len (p : Int × Int) : (pe p).length = 32 := dg_len _ _ _
theorem pe_dv {p : Int × Int} (h : cn p) : dv 256 (pe p) = enc p := by
  obtain ⟨_, _, h0, h1⟩ := enc_div h
  exact dv_dg_of (by decide) h0 (by have : WW = 256 ^ 32 := by decide
                                    omega)
theorem pe_pz : pe pz = [1, 0, 0, 0, 0, 0, 0, 0, 0, 0, 0, 0, 0, 0, 0, 0, 0, 0, 0, 0, 0, 0, 0, 0, 0, 0, 0, 0, 0, 0, 0, 0] := by decide
theorem Rep.neg {q : Q4} {p : Int × Int} (h : Rep q p) (hz : q.z = 1) : Rep ⟨minZ 0 q.x, q.y, 1, timesZ (minZ 0 q.x) q.y⟩ (pneg p) := by
  have hx := h.x
  have hy := h.y
  rw [hz, Int.mul_one] at hx hy
  have e1 : minZ 0 q.x % PP = ((0 - p.1) % PP) % PP := by rw [minZ_mod, Int.emod_emod, sub_congP rfl hx]
  refine ⟨not_one, ?_, ?_, ?_, pneg_on h.on, pneg_cn h.cn⟩
  · simp only [Int.mul_one, pneg]; exact e1
  · simp only [Int.mul_one, pneg]; exact hy
  · simp only [Int.mul_one, pneg]; exact ti e1 hy
end Go.Bx
namespace Go.Proofs.Ytfobnajgnnccmaa
open Go.RowKit Go.Bx Go.Sx
set_option linter.unusedSimpArgs false
set_option linter.unusedVariables false
theorem pg_add {p q : Int × Int} (op : onC p) (cp : cn p) (oq : onC q) (cq : cn q) : pfns.g 92 [pe p, pe q] = pe (pa p q) ++ [0] := by
  rw [show pfns.g 92 [pe p, pe q] = (if decOK (dv 256 (pe p)) ∧ decOK (dv 256 (pe q)) then dg 256 32 (encQ (plusQ (decQ (dv 256 (pe p))) (decQ (dv 256 (pe q))))) ++ [0] else dg 256 32 0 ++ [3]) from rfl, pe_dv cp, pe_dv cq]
  obtain ⟨d1, r1⟩ := dec_enc op cp
  obtain ⟨d2, r2⟩ := dec_enc oq cq
  rw [if_pos ⟨d1, d2⟩, Rep.enc (r1.plus r2)]; rfl
theorem pg_mul {n : List Int} (ln : n.length = 32) (dn : Dig 256 n) {p : Int × Int} (op : onC p) (cp : cn p) : pfns.g 94 [n, pe p] = pe (nm p (dv 256 n).toNat) ++ [0] := by
  rw [show pfns.g 94 [n, pe p] = (if decOK (dv 256 (pe p)) then dg 256 32 (encQ (mulQ (decQ (dv 256 (pe p))) (dv 256 n) 256)) ++ [0] else dg 256 32 0 ++ [3]) from rfl, pe_dv cp]
  obtain ⟨d1, r1⟩ := dec_enc op cp
  have b := dv_bound (by decide : (0 : Int) < 256) dn
  rw [ln] at b
  obtain ⟨N, hN⟩ := Int.eq_ofNat_of_zero_le b.1
  have hb : N < 2 ^ 256 := by
    have e : (256 : Int) ^ 32 = ((2 ^ 256 : Nat) : Int) := by decide
    rw [hN, e] at b
    exact Int.ofNat_lt.1 b.2
  rw [if_pos d1, hN, Rep.enc (r1.mulAll hb)]; rfl
theorem pg_neg {p : Int × Int} (op : onC p) (cp : cn p) : pfns.g 93 [pe p] = pe (pneg p) ++ [0] := by
  rw [show pfns.g 93 [pe p] = (if decOK (dv 256 (pe p)) then dg 256 32 (encQ (negQ (decQ (dv 256 (pe p))))) ++ [0] else dg 256 32 0 ++ [3]) from rfl, pe_dv cp]
  obtain ⟨d1, r1⟩ := dec_enc op cp
  rw [if_pos d1, show negQ (decQ (enc p)) = ⟨minZ 0 (decQ (enc p)).x, (decQ (enc p)).y, 1, timesZ (minZ 0 (decQ (enc p)).x) (decQ (enc p)).y⟩ from rfl, Rep.enc (r1.neg rfl)]; rfl
theorem pg_at {p : Int × Int} (op : onC p) (cp : cn p) : pfns.g 95 [pe p] = dg 256 32 p.1 ++ (dg 256 32 p.2 ++ [0]) := by
  rw [show pfns.g 95 [pe p] = (if decOK (dv 256 (pe p)) then dg 256 32 (decX (dv 256 (pe p)) % PP) ++ (dg 256 32 (dv 256 (pe p) % H255) ++ [0]) else dg 256 32 0 ++ (dg 256 32 0 ++ [3])) from rfl, pe_dv cp]
  obtain ⟨d1, r1⟩ := dec_enc op cp
  have hx : decX (enc p) % PP = p.1 := by
    have := r1.x
    simp only [decQ, Int.mul_one] at this
    rw [this, Int.emod_eq_of_lt cp.1.1 cp.1.2]
  rw [if_pos d1, hx, (enc_div cp).1]
theorem pg_good (A : List Int) : pfns.g 88 [A] = [b2i (decide (decOK (dv 256 A)))] := rfl
theorem two_of {ρ : Nat → Int} {n : Nat} {g : List Int} {p : Int × Int} (hg : g = pe p ++ [0]) (h : ∀ i, i < 33 → ρ (n + i) = g.getD i 0) : seg ρ n 32 = pe p ∧ ρ (n + 32) = 0 := by
  rw [hg] at h
  obtain ⟨h1, h2⟩ := splitN (R := [0]) (pe_len p) h
  exact ⟨h1, h2 0 (by decide)⟩
def cHex : Ctr := ⟨37, 110, [.row .u8 26 32], [.str [53, 56, 54, 54, 54, 54, 54, 54, 54, 54, 54, 54, 54, 54, 54, 54, 54, 54, 54, 54, 54, 54, 54, 54, 54, 54, 54, 54, 54, 54, 54, 54, 54, 54, 54, 54, 54, 54, 54, 54, 54, 54, 54, 54, 54, 54, 54, 54, 54, 54, 54, 54, 54, 54, 54, 54, 54, 54, 54, 54, 54, 54, 54, 54]]⟩
theorem okHex : CtrOK Try.prog pfns cHex := by
  intro w vs xs ha hp
  obtain ⟨v, a, rfl, rfl, ⟨la, ⟨g, hv, hg⟩, ia⟩⟩ := open1 ha
  have hp : a = dg 256 32 (enc BP) := hp
  obtain ⟨l, hl⟩ : ∃ l : List UInt8, l = [88, 102, 102, 102, 102, 102, 102, 102, 102, 102, 102, 102, 102, 102, 102, 102, 102, 102, 102, 102, 102, 102, 102, 102, 102, 102, 102, 102, 102, 102, 102, 102] := ⟨_, rfl⟩
  have el : a.map (Value.int .u8) = bvs l := by rw [hp, hl, show dg 256 32 (enc BP) = [88, 102, 102, 102, 102, 102, 102, 102, 102, 102, 102, 102, 102, 102, 102, 102, 102, 102, 102, 102, 102, 102, 102, 102, 102, 102, 102, 102, 102, 102, 102, 102] from by decide]; rfl
  have ll : l.length = 32 := by rw [hl]; rfl
  have hs : Sl w 1 v l.length (bvs l) := by
    rw [el] at hg
    refine ⟨by rw [bvs_length, Nat.mul_one], some ⟨g, 0, none⟩, 32, by rw [hv, ll], by omega, by decide, (by intro h; cases h), .inr ⟨g, 0, rfl, (Array.getElem?_eq_some_iff.1 hg).1, fun j u hj => ?_⟩⟩
    rw [cell_of_row w g _ _ _ _ hg, Nat.zero_add]; simpa using hj
  refine .inl ⟨Try.f37, _, by kernel_rfl, by kernel_rfl, rfl, (rhex_any v l w hs ⟨by rw [ll]; decide⟩).mono ?_⟩
  rintro e w' ⟨rfl, hb⟩
  refine ⟨_, rfl, ?_, ⟨trivial, trivial⟩, hb⟩
  show Value.string ⟨(hexB l).toArray⟩ = Value.string ⟨([53, 56, 54, 54, 54, 54, 54, 54, 54, 54, 54, 54, 54, 54, 54, 54, 54, 54, 54, 54, 54, 54, 54, 54, 54, 54, 54, 54, 54, 54, 54, 54, 54, 54, 54, 54, 54, 54, 54, 54, 54, 54, 54, 54, 54, 54, 54, 54, 54, 54, 54, 54, 54, 54, 54, 54, 54, 54, 54, 54, 54, 54, 54, 54] : List UInt8).toArray⟩
  rw [hl]; rfl
def PT4 : List Ctr := cHex :: cPGood :: cPZero :: cPBase :: cPAdd :: cPMul :: cPAt :: cPNeg :: []
theorem okPT4 : ∀ c ∈ PT4, CtrOK Try.prog pfns c := by
  intro c hc
  simp only [PT4, List.mem_cons, List.not_mem_nil, or_false] at hc
  rcases hc with rfl | rfl | rfl | rfl | rfl | rfl | rfl | rfl
  · exact okHex
  · exact okPGood
  · exact okPZero
  · exact okPBase
  · exact okPAdd
  · exact okPMul
  · exact okPAt
  · exact okPNeg
def cPAwake : Ctr := ⟨11, 111, [], [.bool]⟩
theorem okPAwake : CtrOK Try.prog pfns cPAwake := by
  refine CtrOK.of okPT4 mixed (lf := 300) (d := 5) rfl fun w vs xs ha _ => ?_
  rw [show pfns.g cPAwake.j xs = [1] from rfl]
  refine Go.Sx.Way.of (dec := [true,true,true,true,true]) (fs := [.need 91 [], .call 0 91 [] 32, .need 94 [[.l 1, .l 0, .l 0, .l 0, .l 0, .l 0, .l 0, .l 0, .l 0, .l 0, .l 0, .l 0, .l 0, .l 0, .l 0, .l 0, .l 0, .l 0, .l 0, .l 0, .l 0, .l 0, .l 0, .l 0, .l 0, .l 0, .l 0, .l 0, .l 0, .l 0, .l 0, .l 0], [.v 0, .v 1, .v 2, .v 3, .v 4, .v 5, .v 6, .v 7, .v 8, .v 9, .v 10, .v 11, .v 12, .v 13, .v 14, .v 15, .v 16, .v 17, .v 18, .v 19, .v 20, .v 21, .v 22, .v 23, .v 24, .v 25, .v 26, .v 27, .v 28, .v 29, .v 30, .v 31]], .call 32 94 [[.l 1, .l 0, .l 0, .l 0, .l 0, .l 0, .l 0, .l 0, .l 0, .l 0, .l 0, .l 0, .l 0, .l 0, .l 0, .l 0, .l 0, .l 0, .l 0, .l 0, .l 0, .l 0, .l 0, .l 0, .l 0, .l 0, .l 0, .l 0, .l 0, .l 0, .l 0, .l 0], [.v 0, .v 1, .v 2, .v 3, .v 4, .v 5, .v 6, .v 7, .v 8, .v 9, .v 10, .v 11, .v 12, .v 13, .v 14, .v 15, .v 16, .v 17, .v 18, .v 19, .v 20, .v 21, .v 22, .v 23, .v 24, .v 25, .v 26, .v 27, .v 28, .v 29, .v 30, .v 31]] 33, .need 89 [], .call 65 89 [] 32, .need 92 [[.v 0, .v 1, .v 2, .v 3, .v 4, .v 5, .v 6, .v 7, .v 8, .v 9, .v 10, .v 11, .v 12, .v 13, .v 14, .v 15, .v 16, .v 17, .v 18, .v 19, .v 20, .v 21, .v 22, .v 23, .v 24, .v 25, .v 26, .v 27, .v 28, .v 29, .v 30, .v 31], [.v 65, .v 66, .v 67, .v 68, .v 69, .v 70, .v 71, .v 72, .v 73, .v 74, .v 75, .v 76, .v 77, .v 78, .v 79, .v 80, .v 81, .v 82, .v 83, .v 84, .v 85, .v 86, .v 87, .v 88, .v 89, .v 90, .v 91, .v 92, .v 93, .v 94, .v 95, .v 96]], .call 97 92 [[.v 0, .v 1, .v 2, .v 3, .v 4, .v 5, .v 6, .v 7, .v 8, .v 9, .v 10, .v 11, .v 12, .v 13, .v 14, .v 15, .v 16, .v 17, .v 18, .v 19, .v 20, .v 21, .v 22, .v 23, .v 24, .v 25, .v 26, .v 27, .v 28, .v 29, .v 30, .v 31], [.v 65, .v 66, .v 67, .v 68, .v 69, .v 70, .v 71, .v 72, .v 73, .v 74, .v 75, .v 76, .v 77, .v 78, .v 79, .v 80, .v 81, .v 82, .v 83, .v 84, .v 85, .v 86, .v 87, .v 88, .v 89, .v 90, .v 91, .v 92, .v 93, .v 94, .v 95, .v 96]] 33, .need 110 [[.v 0, .v 1, .v 2, .v 3, .v 4, .v 5, .v 6, .v 7, .v 8, .v 9, .v 10, .v 11, .v 12, .v 13, .v 14, .v 15, .v 16, .v 17, .v 18, .v 19, .v 20, .v 21, .v 22, .v 23, .v 24, .v 25, .v 26, .v 27, .v 28, .v 29, .v 30, .v 31]], .call 130 110 [[.v 0, .v 1, .v 2, .v 3, .v 4, .v 5, .v 6, .v 7, .v 8, .v 9, .v 10, .v 11, .v 12, .v 13, .v 14, .v 15, .v 16, .v 17, .v 18, .v 19, .v 20, .v 21, .v 22, .v 23, .v 24, .v 25, .v 26, .v 27, .v 28, .v 29, .v 30, .v 31]] 0, .cmp 130 .eql (.v 64) (.l 0), .cond 130 true, .eqs 131 [(.v 32, .v 0), (.v 33, .v 1), (.v 34, .v 2), (.v 35, .v 3), (.v 36, .v 4), (.v 37, .v 5), (.v 38, .v 6), (.v 39, .v 7), (.v 40, .v 8), (.v 41, .v 9), (.v 42, .v 10), (.v 43, .v 11), (.v 44, .v 12), (.v 45, .v 13), (.v 46, .v 14), (.v 47, .v 15), (.v 48, .v 16), (.v 49, .v 17), (.v 50, .v 18), (.v 51, .v 19), (.v 52, .v 20), (.v 53, .v 21), (.v 54, .v 22), (.v 55, .v 23), (.v 56, .v 24), (.v 57, .v 25), (.v 58, .v 26), (.v 59, .v 27), (.v 60, .v 28), (.v 61, .v 29), (.v 62, .v 30), (.v 63, .v 31)], .cond 131 true, .cmp 132 .eql (.v 129) (.l 0), .cond 132 true, .eqs 133 [(.v 97, .v 0), (.v 98, .v 1), (.v 99, .v 2), (.v 100, .v 3), (.v 101, .v 4), (.v 102, .v 5), (.v 103, .v 6), (.v 104, .v 7), (.v 105, .v 8), (.v 106, .v 9), (.v 107, .v 10), (.v 108, .v 11), (.v 109, .v 12), (.v 110, .v 13), (.v 111, .v 14), (.v 112, .v 15), (.v 113, .v 16), (.v 114, .v 17), (.v 115, .v 18), (.v 116, .v 19), (.v 117, .v 20), (.v 118, .v 21), (.v 119, .v 22), (.v 120, .v 23), (.v 121, .v 24), (.v 122, .v 25), (.v 123, .v 26), (.v 124, .v 27), (.v 125, .v 28), (.v 126, .v 29), (.v 127, .v 30), (.v 128, .v 31)], .cond 133 true, .need 88 [[.v 0, .v 1, .v 2, .v 3, .v 4, .v 5, .v 6, .v 7, .v 8, .v 9, .v 10, .v 11, .v 12, .v 13, .v 14, .v 15, .v 16, .v 17, .v 18, .v 19, .v 20, .v 21, .v 22, .v 23, .v 24, .v 25, .v 26, .v 27, .v 28, .v 29, .v 30, .v 31]], .call 134 88 [[.v 0, .v 1, .v 2, .v 3, .v 4, .v 5, .v 6, .v 7, .v 8, .v 9, .v 10, .v 11, .v 12, .v 13, .v 14, .v 15, .v 16, .v 17, .v 18, .v 19, .v 20, .v 21, .v 22, .v 23, .v 24, .v 25, .v 26, .v 27, .v 28, .v 29, .v 30, .v 31]] 1, .cond 134 true, .need 89 [], .call 135 89 [] 32, .eqs 167 [(.v 135, .l 1), (.v 136, .l 0), (.v 137, .l 0), (.v 138, .l 0), (.v 139, .l 0), (.v 140, .l 0), (.v 141, .l 0), (.v 142, .l 0), (.v 143, .l 0), (.v 144, .l 0), (.v 145, .l 0), (.v 146, .l 0), (.v 147, .l 0), (.v 148, .l 0), (.v 149, .l 0), (.v 150, .l 0), (.v 151, .l 0), (.v 152, .l 0), (.v 153, .l 0), (.v 154, .l 0), (.v 155, .l 0), (.v 156, .l 0), (.v 157, .l 0), (.v 158, .l 0), (.v 159, .l 0), (.v 160, .l 0), (.v 161, .l 0), (.v 162, .l 0), (.v 163, .l 0), (.v 164, .l 0), (.v 165, .l 0), (.v 166, .l 0)]]) (refs := [.v 167]) (by kernel_rfl) fun ρ hρ hd => ?_
  simp only [D_nil, D_add, D_sub, D_mul, D_and, D_or, D_xor, D_shl, D_shr, D_andNot, D_quo, D_rem, D_add_i64, D_sub_i64, D_mul_i64, D_add_u32, D_sub_u32, D_mul_u32, D_add_u8, D_sub_u8, D_mul_u8, D_eql, D_neq, D_lss, D_leq, D_gtr, D_geq, D_not, D_conv, D_eqs, D_call, D_cond, D_need, D_idx, D_sel, D_upd, D_shv, D_beq, List.map_cons, List.map_nil, Ref.den] at hd
  obtain ⟨h0, h32, h65, h97, h110, h130, h131, h132, h133, h134, h135, h167, -⟩ := hd
  have s0 : seg ρ 0 32 = pe BP := seg_of h0 (pe_len _)
  have s65 : seg ρ 65 32 = pe pz := (seg_of (g := dg 256 32 1) h65 (dg_len _ _ _)).trans (by decide)
  have s135 : seg ρ 135 32 = pe pz := (seg_of (g := dg 256 32 1) h135 (dg_len _ _ _)).trans (by decide)
  have d1 : Dig 256 [1, 0, 0, 0, 0, 0, 0, 0, 0, 0, 0, 0, 0, 0, 0, 0, 0, 0, 0, 0, 0, 0, 0, 0, 0, 0, 0, 0, 0, 0, 0, 0] := by rw [← pe_pz]; exact dg_dig (by decide) _ _
  obtain ⟨s32, k64⟩ := two_of (pg_mul (n := [1, 0, 0, 0, 0, 0, 0, 0, 0, 0, 0, 0, 0, 0, 0, 0, 0, 0, 0, 0, 0, 0, 0, 0, 0, 0, 0, 0, 0, 0, 0, 0]) rfl d1 BP_on BP_cn) (fun i hi => by have := h32 i hi; rwa [show [ρ 0, ρ 1, ρ 2, ρ 3, ρ 4, ρ 5, ρ 6, ρ 7, ρ 8, ρ 9, ρ 10, ρ 11, ρ 12, ρ 13, ρ 14, ρ 15, ρ 16, ρ 17, ρ 18, ρ 19, ρ 20, ρ 21, ρ 22, ρ 23, ρ 24, ρ 25, ρ 26, ρ 27, ρ 28, ρ 29, ρ 30, ρ 31] = pe BP from s0] at this)
  rw [show (dv 256 [1, 0, 0, 0, 0, 0, 0, 0, 0, 0, 0, 0, 0, 0, 0, 0, 0, 0, 0, 0, 0, 0, 0, 0, 0, 0, 0, 0, 0, 0, 0, 0]).toNat = 1 by decide, nm_one BP_on BP_cn] at s32
  obtain ⟨s97, k129⟩ := two_of (pg_add BP_on BP_cn pz_on pz_cn) (fun i hi => by have : ρ (97 + i) = (pfns.g 92 [seg ρ 0 32, seg ρ 65 32]).getD i 0 := h97 i hi; rwa [s0, s65] at this)
  rw [pa_comm, pa_zero BP_on BP_cn] at s97
  have k130 := bit_true h130 (decide_eq_true k64)
  have q131 : ρ 131 = b2i (decide (seg ρ 32 32 = seg ρ 0 32)) := h131.trans (congrArg b2i eqs_lists)
  have k131 := bit_true q131 (decide_eq_true (s32.trans s0.symm))
  have k132 := bit_true h132 (decide_eq_true k129)
  have q133 : ρ 133 = b2i (decide (seg ρ 97 32 = seg ρ 0 32)) := h133.trans (congrArg b2i eqs_lists)
  have k133 := bit_true q133 (decide_eq_true (s97.trans s0.symm))
  have s134 : ρ 134 = b2i (decide (decOK (dv 256 (seg ρ 0 32)))) := h134 0 (by decide)
  rw [s0, pe_dv BP_cn] at s134
  have k134 := bit_true s134 (decide_eq_true (dec_enc BP_on BP_cn).1)
  have q167 : ρ 167 = b2i (decide (seg ρ 135 32 = [1, 0, 0, 0, 0, 0, 0, 0, 0, 0, 0, 0, 0, 0, 0, 0, 0, 0, 0, 0, 0, 0, 0, 0, 0, 0, 0, 0, 0, 0, 0, 0])) := h167.trans (congrArg b2i eqs_lists)
  rw [s135, pe_pz, decide_eq_true rfl] at q167
  refine ⟨?_, ?_⟩
  · simp only [G_nil, G_bin, G_cmp, G_not, G_conv, G_eqs, G_call, G_cond, G_need, G_idx, G_sel, G_upd, G_shv, G_beq, List.map_cons, List.map_nil, Ref.den]
    refine ⟨trivial, trivial, trivial, trivial, ?_, k130, k131, k132, k133, trivial, k134, trivial, trivial⟩
    exact s0
  · show [ρ 167] = [1]
    rw [q167]; rfl
end Go.Proofs.Ytfobnajgnnccmaa

