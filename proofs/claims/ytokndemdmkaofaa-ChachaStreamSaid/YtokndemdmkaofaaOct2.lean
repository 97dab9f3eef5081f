/- Walks of octet, the second part: bytes put on one another; bytes read as a number; alike or not. Conditions: lengths within memory. -/
import Derived.Test.YtokndemdmkaofaaOct
namespace Go.Bx
open Go Go.RowKit
theorem made_bytes (m : Nat) : madeCells (Value.int .u8 0).cells (m * 1) = (bvs (List.replicate m 0)).toArray := by
  apply Array.ext
  · simp [size_madeCells, bvs]
  · intro i h1 h2
    simp [madeCells, bvs, Value.cells, bv, Nat.mod_one]
/-- A box of bytes of the call's own. -/
theorem Own.ofBox {w : World} {B g : Nat} {l : List UInt8} {t : TypeId} (h : w.heap[g]? = some (.cells (bvs l).toArray t (0, 0))) (hB : B ≤ g) (hm : l.length ≤ maxLen) :
    Own w B 1 (.slice (some ⟨g, 0, none⟩) l.length l.length) l.length (bvs l) := by
  refine ⟨by rw [bvs_length, Nat.mul_one], .inr ⟨g, 0, l.length, rfl, hB, (Array.getElem?_eq_some_iff.1 h).1, Nat.le_refl _, hm, fun j u hj => ?_, fun j hj => ?_, fun j hj => ?_⟩⟩
  · rw [cell_of_row w g _ _ t _ h, Nat.zero_add]; simpa using hj
  · rw [cell_of_row w g _ _ t _ h, Nat.zero_add, Array.getElem?_eq_getElem (by rw [List.size_toArray, bvs_length]; omega)]; rfl
  · exact frozen_of_row w g _ _ t h
/-- Where a slice that holds something lies. -/
theorem Sl.addr {w : World} {a : Option Addr} {c n : Nat} {xs : List Value} {sz : Nat} (h : Sl w sz (.slice a n c) n xs) (hn : 0 < n) :
    ∃ g o, a = some ⟨g, o, none⟩ ∧ g < w.heap.size ∧ ∀ j u, xs[j]? = some u → w.cell? ⟨g, o + j, none⟩ = some u := by
  obtain ⟨hl, a, cap, he, _, _, _, h0 | ⟨g, o, rfl, hg, hc⟩⟩ := h
  · omega
  · cases he; exact ⟨g, o, rfl, hg, hc⟩
theorem xor_byte (a b : UInt8) : bits .xor .u8 (a.toNat : Int) (b.toNat : Int) = ((a ^^^ b).toNat : Int) := by
  rw [u8_xor_nat _ _ a.toNat_lt b.toNat_lt, UInt8.toNat_xor]
theorem or_byte64 (u x : Nat) (hu : u * 256 < 18446744073709551616) (hx : x < 256) : bits .or .u64 (IntKind.u64.wrap ((u : Int) * 256)) (IntKind.u64.wrap (x : Int)) = ((u * 256 + x : Nat) : Int) := by
  have e1 : IntKind.u64.wrap ((u : Int) * 256) = ((u * 256 : Nat) : Int) := by rw [IntKind.wrap_u64]; omega
  have e2 : IntKind.u64.wrap (x : Int) = (x : Int) := by rw [IntKind.wrap_u64]; omega
  rw [e1, e2, u64_or_nat _ _ hu (Nat.lt_trans hx (by decide)), nat_join 8 (u * 256) x (by omega) hx]
theorem and15 (c : Nat) (h2 : c < 256) : bits .and .u8 (c : Int) 15 = (c : Int) % 16 := by
  rw [show (15 : Int) = ((15 : Nat) : Int) from rfl, u8_and_nat _ _ (by omega) (by omega)]
  have : ∀ a : Fin 256, a.val &&& 15 = a.val % 16 := by decide +kernel
  have := this ⟨c, h2⟩
  simp only at this
  rw [this]; omega
theorem or_byte (a b : UInt8) : bits .or .u8 (a.toNat : Int) (b.toNat : Int) = ((a ||| b).toNat : Int) := by
  rw [u8_or_nat _ _ a.toNat_lt b.toNat_lt, UInt8.toNat_or]
theorem or_xor_zero (d a b : UInt8) : d ||| (a ^^^ b) = 0 ↔ d = 0 ∧ a = b := by
  rw [UInt8.or_eq_zero_iff, UInt8.xor_eq_zero_iff]
theorem or16 (p q : Int) (p0 : 0 ≤ p) (p1 : p ≤ 15) (q0 : 0 ≤ q) (q1 : q ≤ 15) : bits .or .i64 (p * 16) q = p * 16 + q := by
  obtain ⟨a, rfl⟩ : ∃ a : Nat, p = a := ⟨p.toNat, by omega⟩
  obtain ⟨b, rfl⟩ : ∃ b : Nat, q = b := ⟨q.toNat, by omega⟩
  have : ∀ (x y : Fin 16), bits .or .i64 ((x.val : Int) * 16) y.val = (x.val : Int) * 16 + y.val := by decide +kernel
  exact this ⟨a, by omega⟩ ⟨b, by omega⟩
/-- string(b), as an equation. -/
theorem Sl.str {P : Program} {w : World} {v : Value} {l : List UInt8} {n : Nat} (hv : Sl w 1 v n (bvs l)) (src dst e : TypeId) (hd : P.underlying dst = some .string) (hs : P.underlying src = some (.slice e)) (he : P.underlying e = some (.int .u8)) :
    (convert src dst v).run P w = .ok (.string ⟨l.toArray⟩) w := by
  obtain ⟨hl, ad, cap, rfl, hn, hm, h0, h1⟩ := hv
  have hln : l.length = n := by simpa [bvs] using hl
  subst hln
  rcases h1 with hz | ⟨g, of, rfl, hg, hc⟩
  · obtain rfl : l = [] := List.eq_nil_of_length_eq_zero hz
    rw [run_convert_bytes_string w src dst e ad _ cap hs he hd]
    cases ad <;> simp [Conv.bytesToString] <;> rfl
  · refine run_convert_bytes_back w src dst e ⟨g, of, none⟩ cap l hs he hd fun j hj => ?_
    rw [Addr.add_lit]
    exact hc j _ (bvs_get l j hj)
/-- The element of a text, as a step of a region that draws. -/
structure IndexQ (P : Program) (t : TypeId) (u i v : Value) : Prop where
  go : ∀ (w : World) (a : Act) (x y : Operand), a.eval x = u → a.eval y = i → (execOp a.eval { dst := none, op := .index t x y, type := t, pos := "", after := #[], guard := none }).run P w = .ok (.value v) w
theorem IndexQ.str {P : Program} {t : TypeId} (h : P.underlying t = some .string) {s : ByteArray} {k : Nat} {b : UInt8} (hb : s.data.toList[k]? = some b) (kk : IntKind) {i : Int} (hi : i = (k : Int)) : IndexQ P t (.string s) (.int kk i) (.int .u8 (b.toNat : Int)) :=
  ⟨fun w a x y hx hy => by
    subst hi
    have hk : k < s.size := by have := (List.getElem?_eq_some_iff.1 hb).1; simpa using this
    have he : s[k] = b := by
      have h2 := hb
      rw [Array.getElem?_toList, Array.getElem?_eq_getElem (by exact hk)] at h2
      exact Option.some.inj h2
    simp [execOp, hx, hy, run_index_string (h := h), hk, he]⟩
section
variable {P : Program} {W0 : World} {dst : Option Tmp} {type : TypeId} {pos : String} {after : Array Edge} {guard : Option (Nat × Bool)} {a : Act} {K : Act → Prop} {v : Value}
theorem quiet_index {t : TypeId} {x y : Operand} {u i : Value} (hl : IndexQ P t u i v) (hx : a.eval x = u) (hy : a.eval y = i)
    (h : Oper.quiet P { dst, op := .move (.const v), type, pos, after, guard } a (fun w' => ∃ x : ExtW W0, w' = x.w) K) :
    Oper.quiet P { dst, op := .index t x y, type, pos, after, guard } a (fun w' => ∃ x : ExtW W0, w' = x.w) K :=
  quiet_const (fun z => by have := hl.go z.w a x y hx hy; simpa only [execOp] using this) h
end
end Go.Bx
namespace Go.Proofs.Ytokndemdmkaofaa
open Go.RowKit Go.Bx

structure XorRel (w : World) (a b : List UInt8) (m : Nat) (i : Value) (wr : World) : Prop where
  ex : ∃ (k : Nat) (l : List UInt8), i = .int .i64 k ∧ k ≤ m ∧ l.length = m ∧ (∀ p, p < k → l[p]? = (xorB a b)[p]?) ∧ wr.heap[w.heap.size]? = some (.cells (bvs l).toArray 5 (0, 0)) ∧ Below w.heap.size w wr
set_option maxHeartbeats 1000000 in
theorem xor_any (u v : Value) (a b : List UInt8) (w : World) (hu : Sl w 1 u a.length (bvs a)) (hv : Sl w 1 v b.length (bvs b)) (ha : Fits a.length) (hb : Fits b.length) :
    Calls Try.prog 34 #[u, v] w fun e w' => ∃ r, e = .returned r ∧ Own w' w.heap.size 1 r (xorB a b).length (bvs (xorB a b)) ∧ Below w.heap.size w w' := by
  obtain ⟨i0, hi, hz0, hz1, hz2⟩ := info_parts infoB
  obtain ⟨ua, uc, rfl⟩ := hu.form
  obtain ⟨va, vc, rfl⟩ := hv.form
  have HU := Held.mk hu
  have HW := Held.mk hv
  have hna := ha.ok
  have hnb := hb.ok
  have hmk : ∀ (n : Nat), n ≤ 140737488355328 → ∀ W : World, (Instr.makeSlice 28 (.int .i64 (n : Int)) (.int .i64 (n : Int))).run Try.prog W = .ok (.slice (some ⟨W.heap.size, 0, none⟩) n n) (W.alloc (.cells (bvs (List.replicate n 0)).toArray 5)) := by
    intro n hn W
    have hr := run_make (P := Try.prog) W 28 5 i0 (.int .u8 0) Try.underlying28 hi hz0 .i64 .i64 n n (by omega) (by omega) (by rw [hz2]; omega) (by omega)
    rw [Int.toNat_natCast, hz1, made_bytes] at hr
    exact hr
  have hm1 := hmk a.length hna
  have hm2 := hmk b.length hnb
  clear hu hv hmk
  by_cases hab : a.length ≤ b.length
  · go_enter Try.func34, Try.ntmps34
    go_wp2
    go_loopw [6, 15] (fun _ i wr => XorRel w a b a.length i wr) (fun _ i _ => a.length - (intOf i).toNat)
    case atStart => exact ⟨⟨0, List.replicate a.length 0, rfl, by omega, by simp, fun p hp => by omega, heap_alloc_new _ _, (Below.refl _ _).alloc (Nat.le_refl _) _⟩⟩
    case round =>
      obtain ⟨k, l, rfl, hk, hl, hp, hg, hbel⟩ := hrel.ex
      have HP := Held.mk hp
      have HL := Held.mk hl
      clear hp hl hrel
      by_cases hlt : k < a.length
      · obtain ⟨ga, oa, rfl, hga, hca⟩ := (HU.out.grow hbel).addr (by omega)
        obtain ⟨gb, ob, rfl, hgb, hcb⟩ := (HW.out.grow hbel).addr (by omega)
        have hlta : k < a.length := by omega
        have hltb : k < b.length := by omega
        obtain ⟨x, hx⟩ : ∃ x : Int, x = a[k].toNat := ⟨_, rfl⟩
        obtain ⟨y, hy⟩ : ∃ y : Int, y = b[k].toNat := ⟨_, rfl⟩
        have c1 : wr.cell? ⟨ga, oa + k, none⟩ = some (.int .u8 x) := by rw [hx]; exact hca k _ (bvs_get a k hlta)
        have c2 : wr.cell? ⟨gb, ob + k, none⟩ = some (.int .u8 y) := by rw [hy]; exact hcb k _ (bvs_get b k hltb)
        obtain ⟨z3, c3⟩ : ∃ z, wr.cell? ⟨w.heap.size, k, none⟩ = some z := ⟨_, by rw [cell_of_row _ _ _ _ _ _ hg, Array.getElem?_eq_getElem (by rw [List.size_toArray, bvs_length, HL.out]; exact hlt)]⟩
        have f3 : wr.frozen? ⟨w.heap.size, k, none⟩ = false := frozen_of_row _ _ _ _ _ hg
        have HX := Held.mk (And.intro hx hy)
        have HG := Held.mk hg
        have HBel := Held.mk hbel
        clear hx hy hca hcb hg hbel hm1 hm2
        go_wp2
        go_region
        go_wp2
        go_roundw
        case rel =>
          have hl := HL.out
          refine ⟨⟨k + 1, l.set k (a[k] ^^^ b[k]), by push_cast; rfl, by omega, by rw [List.length_set]; exact hl, fun p hp => ?_, ?_, ?_⟩⟩
          · by_cases h : p = k
            · subst h; rw [List.getElem?_set, if_pos rfl, if_pos (by omega), xorB_get a b p hlta hltb]
            · rw [List.getElem?_set, if_neg (by omega)]; exact HP.out p (by omega)
          · refine (heap_setCell_same _ _ _ _ _ _ HG.out).trans ?_
            rw [HX.out.1, HX.out.2, xor_byte]
            simp [bvs, List.map_set, bv]
          · exact HBel.out.trans ((Fr.setCell (S := (· = w.heap.size)) wr rfl _).below HBel.out.size (fun i hi e => by omega)).drew
        case measure => simp [intOf]; omega
      · have e : l = xorB a b := by
          apply List.ext_getElem?
          intro p
          by_cases h : p < k
          · exact HP.out p h
          · rw [List.getElem?_eq_none (by rw [HL.out]; omega), List.getElem?_eq_none (by rw [xorB_len]; omega)]
        have hlx : (xorB a b).length = a.length := by rw [xorB_len]; omega
        have HG := Held.mk hg
        clear hg hm1 hm2
        go_wp2
        go_ret
        subst e
        refine ⟨_, rfl, ?_, hbel⟩
        have := Own.ofBox HG.out (Nat.le_refl _) (by rw [hlx]; first | exact ha.max | exact hb.max)
        rw [hlx] at this ⊢
        exact this
  · go_enter Try.func34, Try.ntmps34
    go_wp2
    go_loopw [6, 15] (fun _ i wr => XorRel w a b b.length i wr) (fun _ i _ => b.length - (intOf i).toNat)
    case atStart => exact ⟨⟨0, List.replicate b.length 0, rfl, by omega, by simp, fun p hp => by omega, heap_alloc_new _ _, (Below.refl _ _).alloc (Nat.le_refl _) _⟩⟩
    case round =>
      obtain ⟨k, l, rfl, hk, hl, hp, hg, hbel⟩ := hrel.ex
      have HP := Held.mk hp
      have HL := Held.mk hl
      clear hp hl hrel
      by_cases hlt : k < b.length
      · obtain ⟨ga, oa, rfl, hga, hca⟩ := (HU.out.grow hbel).addr (by omega)
        obtain ⟨gb, ob, rfl, hgb, hcb⟩ := (HW.out.grow hbel).addr (by omega)
        have hlta : k < a.length := by omega
        have hltb : k < b.length := by omega
        obtain ⟨x, hx⟩ : ∃ x : Int, x = a[k].toNat := ⟨_, rfl⟩
        obtain ⟨y, hy⟩ : ∃ y : Int, y = b[k].toNat := ⟨_, rfl⟩
        have c1 : wr.cell? ⟨ga, oa + k, none⟩ = some (.int .u8 x) := by rw [hx]; exact hca k _ (bvs_get a k hlta)
        have c2 : wr.cell? ⟨gb, ob + k, none⟩ = some (.int .u8 y) := by rw [hy]; exact hcb k _ (bvs_get b k hltb)
        obtain ⟨z3, c3⟩ : ∃ z, wr.cell? ⟨w.heap.size, k, none⟩ = some z := ⟨_, by rw [cell_of_row _ _ _ _ _ _ hg, Array.getElem?_eq_getElem (by rw [List.size_toArray, bvs_length, HL.out]; exact hlt)]⟩
        have f3 : wr.frozen? ⟨w.heap.size, k, none⟩ = false := frozen_of_row _ _ _ _ _ hg
        have HX := Held.mk (And.intro hx hy)
        have HG := Held.mk hg
        have HBel := Held.mk hbel
        clear hx hy hca hcb hg hbel hm1 hm2
        go_wp2
        go_region
        go_wp2
        go_roundw
        case rel =>
          have hl := HL.out
          refine ⟨⟨k + 1, l.set k (a[k] ^^^ b[k]), by push_cast; rfl, by omega, by rw [List.length_set]; exact hl, fun p hp => ?_, ?_, ?_⟩⟩
          · by_cases h : p = k
            · subst h; rw [List.getElem?_set, if_pos rfl, if_pos (by omega), xorB_get a b p hlta hltb]
            · rw [List.getElem?_set, if_neg (by omega)]; exact HP.out p (by omega)
          · refine (heap_setCell_same _ _ _ _ _ _ HG.out).trans ?_
            rw [HX.out.1, HX.out.2, xor_byte]
            simp [bvs, List.map_set, bv]
          · exact HBel.out.trans ((Fr.setCell (S := (· = w.heap.size)) wr rfl _).below HBel.out.size (fun i hi e => by omega)).drew
        case measure => simp [intOf]; omega
      · have e : l = xorB a b := by
          apply List.ext_getElem?
          intro p
          by_cases h : p < k
          · exact HP.out p h
          · rw [List.getElem?_eq_none (by rw [HL.out]; omega), List.getElem?_eq_none (by rw [xorB_len]; omega)]
        have hlx : (xorB a b).length = b.length := by rw [xorB_len]; omega
        have HG := Held.mk hg
        clear hg hm1 hm2
        go_wp2
        go_ret
        subst e
        refine ⟨_, rfl, ?_, hbel⟩
        have := Own.ofBox HG.out (Nat.le_refl _) (by rw [hlx]; first | exact ha.max | exact hb.max)
        rw [hlx] at this ⊢
        exact this
structure FrbRel (w : World) (l : List UInt8) (v i : Value) (wr : World) : Prop where
  ex : ∃ (k : Nat) (u : Int), i = .int .i64 k ∧ v = .int .u64 u ∧ k ≤ l.length ∧ Held (u = fromB (l.take k)) ∧ wr = w
set_option maxHeartbeats 1000000 in
theorem fromBig_some (v : Value) (l : List UInt8) (w : World) (h : Sl w 1 v l.length (bvs l)) (h8 : l.length ≤ 8) :
    Calls Try.prog 65 #[v] w fun e w' => e = .returned (.tuple #[.int .u64 (fromB l), .int .i64 0]) ∧ w' = w := by
  obtain ⟨ua, uc, rfl⟩ := h.form
  have HS := Held.mk h
  clear h
  go_enter Try.func65, Try.ntmps65
  go_wp2
  go_loopw [4, 12] (fun v i wr => FrbRel w l v i wr) (fun _ i _ => l.length - (intOf i).toNat)
  case atStart => exact ⟨⟨0, 0, rfl, rfl, by omega, ⟨rfl⟩, rfl⟩⟩
  case round =>
    obtain ⟨k, u, rfl, rfl, hk, hu, rfl⟩ := hrel.ex
    have HU := hu
    clear hu hrel
    by_cases hlt : k < l.length
    · obtain ⟨g, o, rfl, hg, hc⟩ := HS.out.addr (by omega)
      obtain ⟨x, hx⟩ : ∃ x : Int, x = l[k].toNat := ⟨_, rfl⟩
      have c1 : wr.cell? ⟨g, o + k, none⟩ = some (.int .u8 x) := by rw [hx]; exact hc k _ (bvs_get l k hlt)
      have HX := Held.mk hx
      clear hx hc
      go_wp2
      go_roundw
      case rel =>
        refine ⟨⟨k + 1, _, by push_cast; rfl, rfl, by omega, ⟨?_⟩, rfl⟩⟩
        have hb := fromB_lt k (l.take k) (by rw [List.length_take]; omega)
        have hp : 256 ^ k ≤ 256 ^ 7 := Nat.pow_le_pow_right (by omega) (by omega)
        rw [HU.out, HX.out, or_byte64 _ _ (by omega) l[k].toNat_lt, fromB_take l k hlt]
      case measure => simp [intOf]; omega
    · obtain rfl : k = l.length := by omega
      go_wp2
      go_ret2
      rw [HU.out, List.take_length]
      exact ⟨rfl, rfl⟩
set_option maxHeartbeats 400000 in
theorem fromBig_none (v : Value) (l : List UInt8) (w : World) (h : Sl w 1 v l.length (bvs l)) (h8 : 8 < l.length) :
    Calls Try.prog 65 #[v] w fun e w' => e = .returned (.tuple #[.int .u64 0, .int .i64 1]) ∧ w' = w := by
  obtain ⟨ua, uc, rfl⟩ := h.form
  clear h
  go_enter Try.func65, Try.ntmps65
  go_wp2
  go_ret2
  exact ⟨rfl, rfl⟩
/-- What FromBig answers. -/
def frbV (l : List UInt8) : Int := if l.length ≤ 8 then fromB l else 0
def frbE (l : List UInt8) : Int := if l.length ≤ 8 then 0 else 1
theorem fromBig_any (v : Value) (l : List UInt8) (w : World) (h : Sl w 1 v l.length (bvs l)) :
    Calls Try.prog 65 #[v] w fun e w' => e = .returned (.tuple #[.int .u64 (frbV l), .int .i64 (frbE l)]) ∧ w' = w := by
  unfold frbV frbE
  by_cases h8 : l.length ≤ 8
  · rw [if_pos h8, if_pos h8]; exact fromBig_some v l w h h8
  · rw [if_neg h8, if_neg h8]; exact fromBig_none v l w h (by omega)
set_option maxHeartbeats 400000 in
theorem fromLittle_any (v : Value) (l : List UInt8) (w : World) (h : Sl w 1 v l.length (bvs l)) (hn : Fits l.length) :
    Calls Try.prog 62 #[v] w fun e w' => e = .returned (.tuple #[.int .u64 (frbV l.reverse), .int .i64 (frbE l.reverse)]) ∧ Below w.heap.size w w' := by
  have HS := Held.mk h
  clear h
  go_enter Try.func62, Try.ntmps62
  go_wp2_with (first | (go_at_call 66; refine (turn_any _ l _ HS.out hn).mono ?_; rintro e w1 ⟨r, rfl, hown1, hb1⟩; have HO := Held.mk hown1; clear hown1) | (go_at_call 65; refine (fromBig_any _ l.reverse _ (by rw [List.length_reverse]; exact HO.out.sl)).mono ?_; rintro e w2 ⟨rfl, rfl⟩))
  go_ret2
  exact ⟨rfl, hb1⟩
end Go.Proofs.Ytokndemdmkaofaa
