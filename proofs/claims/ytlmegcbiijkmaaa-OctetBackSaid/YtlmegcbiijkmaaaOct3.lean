/- Walks of octet, the third part: digits written and read; alike or not. Conditions: lengths within memory. -/
import Derived.Test.YtlmegcbiijkmaaaOct2
import Derived.Lib.Strings
import Derived.Lib.Slices
import Derived.Lib.Walk
import Derived.Lib.Bytealg
namespace Go.Proofs.Ytlmegcbiijkmaaa
open Go.RowKit Go.Bx

set_option maxHeartbeats 1000000 in
set_option maxRecDepth 100000 in
theorem idx1_any (s : ByteArray) (c : Int) (w : World) :
    Calls Try.prog 64 #[.string s, .int .u8 c] w fun e w' => e = .returned (.int .i64 (Lib.indexByte s.data.toList c.toNat.toUInt8)) ∧ w' = w := by
  go_enter Try.func64, Try.ntmps64
  go_wp2
  rw [run_callFunc_extern Try.func65 (by kernel_rfl) (by kernel_rfl) (by kernel_rfl) (e := Extern.BytealgIndexByte.indexByte) (by kernel_rfl), Lib.run_indexByteString]
  simp only [Result.andThen]
  rw [Oper.upon_value]
  go_wp2
  go_ret
  exact ⟨rfl, rfl⟩
set_option maxHeartbeats 1000000 in
theorem idx_any (s : ByteArray) (c : Int) (w : World) :
    Calls Try.prog 63 #[.string s, .int .u8 c] w fun e w' => e = .returned (.int .i64 (Lib.indexByte s.data.toList c.toNat.toUInt8)) ∧ w' = w := by
  go_enter Try.func63, Try.ntmps63
  go_wp2_with (go_at_call 64; refine (idx1_any _ _ _).mono ?_; rintro e w' ⟨rfl, rfl⟩)
  go_ret
  exact ⟨rfl, rfl⟩
theorem dig_at (m : Nat) (h : m < (⟨#[48, 49, 50, 51, 52, 53, 54, 55, 56, 57, 97, 98, 99, 100, 101, 102]⟩ : ByteArray).size) : Value.int .u8 (((⟨#[48, 49, 50, 51, 52, 53, 54, 55, 56, 57, 97, 98, 99, 100, 101, 102]⟩ : ByteArray)[m]).toNat : Int) = bv (digB.getD m 0) := by
  have hm : m < 16 := h
  have : ∀ n : Fin 16, ((⟨#[48, 49, 50, 51, 52, 53, 54, 55, 56, 57, 97, 98, 99, 100, 101, 102]⟩ : ByteArray)[n.val]'(n.isLt)) = digB.getD n.val 0 := by decide +kernel
  rw [bv, ← this ⟨m, hm⟩]
structure HexRel (w : World) (l : List UInt8) (out i : Value) (wr : World) : Prop where
  ex : ∃ (k : Nat), i = .int .i64 k ∧ k ≤ l.length ∧ Own wr w.heap.size 1 out (hexB (l.take k)).length (bvs (hexB (l.take k))) ∧ Below w.heap.size w wr
set_option maxHeartbeats 1000000 in
theorem hex_any (v : Value) (l : List UInt8) (w : World) (h : Sl w 1 v l.length (bvs l)) (hn : Fits (2 * l.length)) :
    Calls Try.prog 55 #[v] w fun e w' => e = .returned (.string ⟨(hexB l).toArray⟩) ∧ Below w.heap.size w w' := by
  obtain ⟨i0, hi, hz0, hz1, hz2⟩ := info_parts infoB
  obtain ⟨ua, uc, rfl⟩ := h.form
  have HS := Held.mk h
  have hnb := hn.ok
  have hmk : ∀ W : World, (Instr.makeSlice 23 (.int .i64 0) (.int .i64 (2 * (l.length : Int)))).run Try.prog W = .ok (.slice (some ⟨W.heap.size, 0, none⟩) 0 (2 * l.length)) (W.alloc (.cells (bvs (List.replicate (2 * l.length) 0)).toArray 5)) := by
    intro W
    have hr := run_make (P := Try.prog) W 23 5 i0 (.int .u8 0) Try.underlying23 hi hz0 .i64 .i64 0 ((2 * l.length : Nat) : Int) (by omega) (by omega) (by rw [hz2]; omega) (by omega)
    rw [Int.toNat_natCast, hz1, made_bytes] at hr
    simpa using hr
  clear h
  go_enter Try.func55, Try.ntmps55
  go_wp2
  go_loopw [3, 12] (fun out i wr => HexRel w l out i wr) (fun _ i _ => l.length - (intOf i).toNat)
  case atStart =>
    refine ⟨⟨0, rfl, by omega, ?_, (Below.refl _ _).alloc (Nat.le_refl _) _⟩⟩
    refine ⟨rfl, .inr ⟨w.heap.size, 0, 2 * l.length, rfl, Nat.le_refl _, by simp, Nat.zero_le _, hn.max, fun j u hj => by simp [hexB, bvs] at hj, fun j hj => ?_, fun j hj => World.frozen?_alloc_at _ _ _ _ rfl⟩⟩
    rw [World.cell?_alloc_at _ _ _ _ rfl, Array.getElem?_eq_getElem (by rw [List.size_toArray, bvs_length, List.length_replicate]; omega)]; rfl
  case round =>
    obtain ⟨k, rfl, hk, ho, hbel⟩ := hrel.ex
    have HO := Held.mk ho
    clear ho hrel hmk
    by_cases hlt : k < l.length
    · obtain ⟨g, o, rfl, hg, hc⟩ := (HS.out.grow hbel).addr (by omega)
      obtain ⟨x, hx⟩ : ∃ x : Int, x = l[k].toNat := ⟨_, rfl⟩
      have c1 : wr.cell? ⟨g, o + k, none⟩ = some (.int .u8 x) := by rw [hx]; exact hc k _ (bvs_get l k hlt)
      have hx0 : 0 ≤ x := by omega
      have hx1 : x ≤ 255 := by have := l[k].toNat_lt; omega
      have HX := Held.mk hx
      have e1 : bits .and .u8 x 15 = x % 16 := by rw [hx]; exact and15 _ l[k].toNat_lt
      have xa : 0 ≤ x / 16 := by omega
      have xb : x / 16 < 16 := by omega
      have xc : 0 ≤ x % 16 := by omega
      have xd : x % 16 < 16 := by omega
      have hsrc : ∀ d1 d2 : Int, Src Try.prog 1 23 (.slice (some ⟨wr.heap.size, 0, none⟩) 2 2) 2 [.int .u8 d1, .int .u8 d2] (wr.drew.alloc (.cells #[.int .u8 d1, .int .u8 d2] 5)) := fun d1 d2 =>
        Src.ofSlice _ Try.underlying23 ⟨wr.heap.size, 0, none⟩ 2 2 _ rfl (fun j u hj => by rw [Addr.add_lit]; exact ((show (wr.drew.alloc (.cells #[Value.int .u8 d1, .int .u8 d2] 5)).cell? ⟨wr.heap.size, 0 + j, none⟩ = (#[Value.int .u8 d1, .int .u8 d2] : Array Value)[0 + j]? from World.cell?_alloc_at _ _ _ _ rfl).trans (by simpa using hj))) (by intro u hu; simp at hu; rcases hu with rfl | rfl <;> rfl)
      have hown : ∀ o : Obj, Own (wr.drew.alloc o) w.heap.size 1 u3 (hexB (l.take k)).length (bvs (hexB (l.take k))) := fun o => HO.out.grow ((Below.refl _ _).drew.alloc (Nat.le_refl _) o)
      have hsz : ∀ o : Obj, w.heap.size ≤ (wr.drew.alloc o).heap.size := fun o => Nat.le_trans hbel.size (by simp)
      have hfit : Fits ((hexB (l.take k)).length + 2) := hn.le (by rw [hexB_len, List.length_take]; omega)
      have hmax := hfit.max
      have hmul := hfit.mul
      clear hx hc
      go_wp2
      go_region_law (refine step_append rfl _ _ 23 23 rfl (hown _) rfl 5 i0 (.int .u8 0) 1 Try.underlying23 hi hz0 hz1 hz2 rfl Nat.one_pos rfl (hsrc _ _) hmax hmul (hsz _) ?_; intro v' w2 hown2 hfr hob)
      all_goals
        go_wp2
        go_roundw
        case rel =>
          refine ⟨⟨k + 1, by push_cast; rfl, by omega, ?_, ?_⟩⟩
          · rw [hexB_take l k hlt, bvs_append, List.length_append]
            have hq := HX.out
            simp only [show (x / 16).toNat = l[k].toNat / 16 by omega, show (x % 16).toNat = l[k].toNat % 16 by omega, dig_at] at hown2
            exact hown2
          · exact (hbel.drew.alloc hbel.size _).trans (hfr.own (hsz _))
        case measure => simp [intOf]; omega
    · obtain rfl : k = l.length := by omega
      rw [List.take_length] at HO
      go_wp2_with (refine wpList_bytes_str rfl _ 23 9 rfl rfl HO.out.sl 5 Try.underlying9 Try.underlying23 Try.underlying5 ?_)
      go_ret
      exact ⟨rfl, hbel⟩
structure EqRel (w : World) (a b : List UInt8) (m : Nat) (d i : Value) (wr : World) : Prop where
  ex : ∃ (k : Nat) (D : UInt8) (dv : Int), i = .int .i64 k ∧ d = .int .u8 dv ∧ k ≤ m ∧ Held (dv = (D.toNat : Int)) ∧ Held (D = 0 ↔ a.take k = b.take k) ∧ ∃ q, wr = w.drewN q
set_option maxHeartbeats 1000000 in
theorem equal_any (u v : Value) (a b : List UInt8) (w : World) (hu : Sl w 1 u a.length (bvs a)) (hv : Sl w 1 v b.length (bvs b)) (ha : Fits a.length) (hb : Fits b.length) :
    Calls Try.prog 54 #[u, v] w fun e w' => e = .returned (.bool (a == b)) ∧ ∃ q, w' = w.drewN q := by
  obtain ⟨ua, uc, rfl⟩ := hu.form
  obtain ⟨va, vc, rfl⟩ := hv.form
  have HU := Held.mk hu
  have HW := Held.mk hv
  have hna := ha.ok
  have hnb := hb.ok
  clear hu hv
  go_enter Try.func54, Try.ntmps54
  go_wp2
  go_loopw [5, 12] (fun d i wr => EqRel w a b (min a.length b.length) d i wr) (fun _ i _ => (min a.length b.length) - (intOf i).toNat)
  case atStart => exact ⟨⟨0, 0, 0, rfl, rfl, by omega, ⟨rfl⟩, ⟨by simp⟩, 0, rfl⟩⟩
  case round =>
    obtain ⟨k, D, dv, rfl, rfl, hk, hd, hD, q, rfl⟩ := hrel.ex
    clear hrel
    by_cases hlt : k < min a.length b.length
    · have hla : k < a.length := by omega
      have hlb : k < b.length := by omega
      obtain ⟨ga, oa, rfl, hga, hca⟩ := HU.out.addr (by omega)
      obtain ⟨gb, ob, rfl, hgb, hcb⟩ := HW.out.addr (by omega)
      obtain ⟨x, hx⟩ : ∃ x : Int, x = a[k].toNat := ⟨_, rfl⟩
      obtain ⟨y, hy⟩ : ∃ y : Int, y = b[k].toNat := ⟨_, rfl⟩
      have c1 : w.cell? ⟨ga, oa + k, none⟩ = some (.int .u8 x) := by rw [hx]; exact hca k _ (bvs_get a k hla)
      have c2 : w.cell? ⟨gb, ob + k, none⟩ = some (.int .u8 y) := by rw [hy]; exact hcb k _ (bvs_get b k hlb)
      obtain ⟨nv, hnv⟩ : ∃ nv : Int, nv = ((D ||| (a[k] ^^^ b[k])).toNat : Int) := ⟨_, rfl⟩
      have e1 : bits .or .u8 dv (bits .xor .u8 x y) = nv := by rw [hnv, hx, hy, hd.out, xor_byte, or_byte]
      have HN := Held.mk hnv
      clear hx hy hca hcb hnv
      go_wp2
      go_quiet (fail)
      go_wp2
      go_roundw
      case rel =>
        refine ⟨⟨k + 1, _, nv, by push_cast; rfl, rfl, by omega, HN, ⟨?_⟩, _, rfl⟩⟩
        rw [List.take_add_one, List.take_add_one, List.getElem?_eq_getElem hla, List.getElem?_eq_getElem hlb, or_xor_zero, hD.out]
        constructor
        · rintro ⟨h1, h2⟩; rw [h1, h2]
        · intro h
          have := List.append_inj h (by simp; omega)
          exact ⟨this.1, by simpa using this.2⟩
      case measure => simp [intOf]; omega
    · have hkm : k = min a.length b.length := by omega
      have fin : (a == b) = (decide (dv = 0) && decide (a.length = b.length)) := by
        rw [Bool.eq_iff_iff]
        have h0 : dv = 0 ↔ D = 0 := by
          rw [hd.out]
          constructor
          · intro h; exact UInt8.toNat.inj (by simpa using h)
          · rintro rfl; rfl
        simp only [beq_iff_eq, Bool.and_eq_true, decide_eq_true_eq, h0, hD.out]
        constructor
        · rintro rfl; exact ⟨rfl, rfl⟩
        · rintro ⟨h1, h2⟩
          rwa [hkm, h2, Nat.min_self, List.take_length, ← h2, List.take_length] at h1
      have FIN := Held.mk fin
      clear fin hkm
      by_cases hz : dv = 0
      · by_cases hll : a.length = b.length
        · go_wp2
          go_ret
          rw [FIN.out]
          refine ⟨?_, _, rfl⟩
          simp [hz, hll]
        · go_wp2
          go_ret
          rw [FIN.out]
          refine ⟨?_, _, rfl⟩
          simp [hz, hll]; omega
      · go_wp2
        go_ret
        rw [FIN.out]
        refine ⟨?_, _, rfl⟩
        simp [hz]
structure UnRel (w : World) (l : List UInt8) (out i : Value) (wr : World) : Prop where
  ex : ∃ (k : Nat) (pre : List UInt8), i = .int .i64 ((2 * k : Nat) : Int) ∧ 2 * k ≤ l.length ∧ pre.length = k ∧ Own wr w.heap.size 1 out k (bvs pre) ∧ Held (unhexB l = (unhexB (l.drop (2 * k))).map (pre ++ ·)) ∧ Below w.heap.size w wr
/-- What Unhex answers: the bytes and 0, or none and 3. -/
def unV (l : List UInt8) : List UInt8 := (unhexB l).getD []
def unE (l : List UInt8) : Int := if (unhexB l).isSome then 0 else 3
theorem unV_none {l : List UInt8} (h : unhexB l = none) : unV l = [] ∧ unE l = 3 := by simp [unV, unE, h]
theorem unV_some {l r : List UInt8} (h : unhexB l = some r) : unV l = r ∧ unE l = 0 := by simp [unV, unE, h]
theorem idxQ (s : ByteArray) (c : UInt8) (W : World) : CallQ Try.prog 63 [.string s, .int .u8 (c.toNat : Int)] W (.int .i64 (Lib.indexByte s.data.toList c)) :=
  CallQ.mk' Try.func63 (by kernel_rfl) rfl fun x => (idx_any s c.toNat x.w).mono fun e w' h => by
    obtain ⟨rfl, rfl⟩ := h
    refine ⟨?_, Below.refl _ _⟩
    rw [show ((c.toNat : Int)).toNat.toUInt8 = c from by simp]
set_option maxHeartbeats 1000000 in
theorem unhex_even (s : ByteArray) (l : List UInt8) (hl : l = s.data.toList) (he : l.length % 2 = 0) (hn : Fits l.length) (w : World) :
    Calls Try.prog 50 #[.string s] w fun e w' => ∃ r, e = .returned (.tuple #[r, .int .i64 (unE l)]) ∧ Own w' w.heap.size 1 r (unV l).length (bvs (unV l)) ∧ Below w.heap.size w w' := by
  obtain ⟨i0, hi, hz0, hz1, hz2⟩ := info_parts infoB
  have hsz : s.size = l.length := by rw [hl, Array.length_toList]; rfl
  have HL := Held.mk hl
  have HE := Held.mk he
  have hnb := hn.ok
  obtain ⟨n2, hn2⟩ : ∃ n2, l.length = 2 * n2 := ⟨l.length / 2, by omega⟩
  rw [hn2] at hsz hnb
  have hpar : (2 * (n2 : Int)) % 2 = 0 := by omega
  clear hl he
  go_enter Try.func50, Try.ntmps50
  go_wp2
  go_loopw [4, 5] (fun out i wr => UnRel w l out i wr) (fun _ i _ => l.length - (intOf i).toNat)
  case atStart => exact ⟨⟨0, [], rfl, by omega, rfl, Own.nil _ _ _, ⟨by simp⟩, Below.refl _ _⟩⟩
  case round =>
    obtain ⟨k, pre, rfl, hk, hpl, ho, hun, hbel⟩ := hrel.ex
    have HO := Held.mk ho
    have HP := Held.mk hpl
    clear ho hrel hpl
    by_cases hlt : k < n2
    · have hl1 : 2 * k + 1 < l.length := by omega
      obtain ⟨b1, hb1⟩ : ∃ b, l[2 * k]? = some b := ⟨_, List.getElem?_eq_getElem (by omega)⟩
      obtain ⟨b2, hb2⟩ : ∃ b, l[2 * k + 1]? = some b := ⟨_, List.getElem?_eq_getElem hl1⟩
      have hst := unhex_step l (2 * k) hl1
      have e1 : l[2 * k] = b1 := by rw [List.getElem?_eq_getElem (by omega)] at hb1; exact Option.some.inj hb1
      have e2 : l[2 * k + 1] = b2 := by rw [List.getElem?_eq_getElem hl1] at hb2; exact Option.some.inj hb2
      rw [e1, e2] at hst
      have q1 : IndexQ Try.prog 9 (.string s) (.int .i64 ((2 * k : Nat) : Int)) (.int .u8 (b1.toNat : Int)) := IndexQ.str Try.underlying9 (by rw [← HL.out]; exact hb1) .i64 rfl
      have q2 : IndexQ Try.prog 9 (.string s) (.int .i64 (((2 * k : Nat) : Int) + 1)) (.int .u8 (b2.toNat : Int)) := IndexQ.str Try.underlying9 (by rw [← HL.out]; exact hb2) .i64 (by omega)
      have r1 := idxQ ⟨#[48, 49, 50, 51, 52, 53, 54, 55, 56, 57, 97, 98, 99, 100, 101, 102]⟩ b1 wr
      have r2 := idxQ ⟨#[48, 49, 50, 51, 52, 53, 54, 55, 56, 57, 97, 98, 99, 100, 101, 102]⟩ b2 wr
      rw [show Lib.indexByte (⟨#[48, 49, 50, 51, 52, 53, 54, 55, 56, 57, 97, 98, 99, 100, 101, 102]⟩ : ByteArray).data.toList b1 = digI b1 from rfl] at r1
      rw [show Lib.indexByte (⟨#[48, 49, 50, 51, 52, 53, 54, 55, 56, 57, 97, 98, 99, 100, 101, 102]⟩ : ByteArray).data.toList b2 = digI b2 from rfl] at r2
      have d1 := digI_range b1
      have d2 := digI_range b2
      have HST := Held.mk hst
      have HUN := hun
      generalize hd1 : digI b1 = p at *
      generalize hd2 : digI b2 = q at *
      generalize (b1.toNat : Int) = x1 at *
      generalize (b2.toNat : Int) = x2 at *
      obtain ⟨p0, p1⟩ := d1
      obtain ⟨q0, q1'⟩ := d2
      clear hb1 hb2 e1 e2 hst hun hd1 hd2
      go_wp2
      refine wp_region_q (by kernel_rfl) (by kernel_rfl) ?_
      repeat (first
        | go_big_quiet_skip
        | (go_big_quiet_want; first
          | (refine quiet_call r1 rfl ?_; go_big_quiet_op; go_big_quiet_on)
          | (refine quiet_call r2 rfl ?_; go_big_quiet_op; go_big_quiet_on)
          | (refine quiet_index q1 rfl rfl ?_; go_big_quiet_op; go_big_quiet_on)
          | (refine quiet_index q2 rfl rfl ?_; go_big_quiet_op; go_big_quiet_on)
          | (go_big_quiet_op; go_big_quiet_on)))
      refine wpQuiet_nil (fun x => ?_)
      have hox : Own x.w w.heap.size 1 u4 k (bvs pre) := HO.out.fr x.fr (fun _ _ _ => id)
      have hbx : Below w.heap.size w x.w := hbel.trans (x.below.mono hbel.size)
      have HOX := Held.mk hox
      clear hox q1 q2 r1 r2
      by_cases hp : p < 0
      · have hf : unhexB l = none := by rw [HUN.out, HST.out, if_pos (.inl hp)]; rfl
        have hu := Held.mk (unV_none hf); clear hf
        go_wp2
        go_ret2
        rw [hu.out.1, hu.out.2]
        exact ⟨_, rfl, Own.nil _ _ _, hbx⟩
      · by_cases hq : q < 0
        · have hf : unhexB l = none := by rw [HUN.out, HST.out, if_pos (.inr hq)]; rfl
          have hu := Held.mk (unV_none hf); clear hf
          go_wp2
          go_ret2
          rw [hu.out.1, hu.out.2]
          exact ⟨_, rfl, Own.nil _ _ _, hbx⟩
        · have e1 : bits .or .i64 (p * 16) q = p * 16 + q := or16 p q (by omega) p1 (by omega) q1'
          have pq0 : 0 ≤ p * 16 + q := by omega
          have pq1 : p * 16 + q < 256 := by omega
          have hpl : k + 1 ≤ l.length := by omega
          go_wp2_with (at_builtin; go_must (refine wpList_append rfl _ _ 23 23 rfl (HOX.out.grow ?_) rfl 5 i0 (.int .u8 0) 1 Try.underlying23 hi hz0 hz1 hz2 rfl (by decide) rfl ((Sl.one _ _ _).src ?_ Try.underlying23) ?_ ?_ ?_ ?_); exact (Below.refl _ _).alloc (Nat.le_refl _) _; simp [Value.oneCell']; exact (hn.le hpl).max; exact (hn.le hpl).mul; exact Nat.le_trans hbx.size (by simp); intro v' w2 hown2 hfr hob)
          go_roundw
          case rel =>
            rw [bv_ofInt _ pq0 pq1, bvs_snoc] at hown2
            refine ⟨⟨k + 1, _, by push_cast; rfl, by omega, by rw [List.length_append, HP.out]; rfl, hown2, ⟨?_⟩, ?_⟩⟩
            · rw [HUN.out, HST.out, if_neg (by omega), show 2 * (k + 1) = 2 * k + 2 from by omega, show (p * 16 + q).toNat = 16 * p.toNat + q.toNat from by omega]
              cases unhexB (List.drop (2 * k + 2) l) <;> simp
            · exact (hbx.alloc hbx.size _).trans (hfr.own (Nat.le_trans hbx.size (by simp)))
          case measure => simp [intOf]; omega
    · obtain rfl : k = n2 := by omega
      have hf : unhexB l = some pre := by rw [hun.out, ← hn2, List.drop_length]; simp [unhexB]
      have hu := Held.mk (unV_some hf); clear hf
      go_wp2
      go_ret2
      rw [hu.out.1, hu.out.2, HP.out]
      exact ⟨_, rfl, HO.out, hbel⟩
set_option maxHeartbeats 400000 in
theorem unhex_odd' (s : ByteArray) (l : List UInt8) (hl : l = s.data.toList) (he : ¬ l.length % 2 = 0) (hn : Fits l.length) (w : World) :
    Calls Try.prog 50 #[.string s] w fun e w' => ∃ r, e = .returned (.tuple #[r, .int .i64 (unE l)]) ∧ Own w' w.heap.size 1 r (unV l).length (bvs (unV l)) ∧ Below w.heap.size w w' := by
  have hsz : s.size = l.length := by rw [hl, Array.length_toList]; rfl
  have hnb := hn.ok
  obtain ⟨n2, hn2⟩ : ∃ n2, l.length = 2 * n2 + 1 := ⟨l.length / 2, by omega⟩
  have hu := Held.mk (unV_none (unhex_odd n2 l hn2))
  rw [hn2] at hsz hnb
  have hpar : (2 * (n2 : Int) + 1) % 2 = 1 := by omega
  clear hl he
  go_enter Try.func50, Try.ntmps50
  go_wp2
  go_ret2
  rw [hu.out.1, hu.out.2]
  exact ⟨_, rfl, Own.nil _ _ _, Below.refl _ _⟩
/-- octet.Unhex. -/
theorem unhex_any (s : ByteArray) (hn : Fits s.data.toList.length) (w : World) :
    Calls Try.prog 50 #[.string s] w fun e w' => ∃ r, e = .returned (.tuple #[r, .int .i64 (unE s.data.toList)]) ∧ Own w' w.heap.size 1 r (unV s.data.toList).length (bvs (unV s.data.toList)) ∧ Below w.heap.size w w' := by
  by_cases he : s.data.toList.length % 2 = 0
  · exact unhex_even s _ rfl he hn w
  · exact unhex_odd' s _ rfl he hn w
set_option maxHeartbeats 1000000 in
theorem awake1_any (w : World) : Calls Try.prog 46 #[] w fun e w' => e = .returned (.bool true) ∧ Below w.heap.size w w' := by
  go_enter Try.func46, Try.ntmps46
  go_wp2_with (first
    | (go_at_call 47; refine (big_any _ [] 258 (by decide) (by decide) 2 _ (Sl.zero _ _) ⟨by decide⟩).mono ?_; rintro e w1 ⟨r, rfl, ho, hb1⟩; rw [show [] ++ bigB (Int.toNat 258) (held8 2) = [1, 2] from by decide +kernel] at ho; have HO := Held.mk ho; clear ho)
    | (refine wpList_bytes_str rfl _ 23 9 rfl rfl HR.out.sl 5 Try.underlying9 Try.underlying23 Try.underlying5 ?_)
    | (refine wpList_bytes_str rfl _ 23 9 rfl rfl HO.out.sl 5 Try.underlying9 Try.underlying23 Try.underlying5 ?_)
    | (go_at_call 55; refine (hex_any _ [1, 2] _ HO.out.sl ⟨by decide⟩).mono ?_; rintro e w2 ⟨rfl, hb2⟩; have HO2 := Held.mk (HO.out.grow hb2))
    | (go_at_call 54; refine (equal_any _ _ [1, 2] [1, 2] _ (HO2.out.sl.grow ((Below.refl _ _).alloc (Nat.le_refl _) _)) (Sl.lit w2 [1, 2] 5 (by decide)) ⟨by decide⟩ ⟨by decide⟩).mono ?_; rintro e w3 ⟨rfl, q3, rfl⟩)
    | (go_at_call 48; refine (turn_any _ [1, 2] _ ((HO2.out.sl.grow ((Below.refl _ _).alloc (Nat.le_refl _) _)).fr (Fr.drewN (fun _ => False) _ _) (fun _ _ _ _ => id)) ⟨by decide⟩).mono ?_; rintro e w4 ⟨r4, rfl, ho4, hb4⟩; have HR := Held.mk ho4; clear ho4))
  go_ret
  have b4 : Below w2.heap.size w2 w4 := (below_drewN ((Below.refl _ _).alloc (Nat.le_refl _) _) _).trans (hb4.mono (by show w2.heap.size ≤ _; simp [World.drewN]))
  exact ⟨rfl, hb1.trans ((hb2.trans (b4.mono hb2.size)).mono hb1.size)⟩
end Go.Proofs.Ytlmegcbiijkmaaa
