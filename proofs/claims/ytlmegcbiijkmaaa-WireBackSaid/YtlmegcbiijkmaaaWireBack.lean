/- WireBack: the walk. No condition. -/
import Derived.Test.YtlmegcbiijkmaaaWireLaws
import Derived.Test.YtlmegcbiijkmaaaWire3
import Derived.Test.YtlmegcbiijkmaaaWireR
import Derived.Test.YtlmegcbiijkmaaaOct2
import Derived.Test.YtlmegcbiijkmaaaRel2
namespace Go.Proofs.Ytlmegcbiijkmaaa.wireBack
open Go.RowKit Go.Bx

theorem rd_num (v : Int) (v0 : 0 ≤ v) (most : Int) (hm : v ≤ most) (hv : I64 v) (R : List UInt8) (bad : Bool) : numV most (enc v.toNat ++ R) = v ∧ numL most (enc v.toNat ++ R) = R ∧ numB most (enc v.toNat ++ R) bad = bad := by
  have h := dec_enc v.toNat most.toNat R (by have := hv.hi; omega)
  rw [if_pos (by omega)] at h
  obtain ⟨h1, h2, h3⟩ := some_num (most := most) bad h
  exact ⟨by omega, h2, h3⟩
theorem rd_bytes (x R : List UInt8) (most : Int) (h : (x.length : Int) ≤ most) (h2 : x.length ≤ 200) : bytV most (lenE x ++ R) = x ∧ bytL most (lenE x ++ R) = R ∧ bytB most (lenE x ++ R) false = false := by
  have := rd_num (x.length : Int) (by omega) most h ⟨by omega, by omega⟩ (x ++ R) false
  rw [Int.toNat_natCast] at this
  unfold bytV bytL bytB takeV takeL takeB lenE
  rw [List.append_assoc, this.1, this.2.1, this.2.2, Int.toNat_natCast]
  simp
/-- The values that the steps make: a slice (with where it may lie), or a value told. -/
inductive Kd where
  | sl (l : List UInt8)
  | val (v : Value)
def Kd.holds (g : Nat) (w : World) (v : Value) : Kd → Prop
  | .sl l => Sl w 1 v l.length (bvs l) ∧ (0 < l.length → v.ownBlock ≠ some g)
  | .val u => v = u
def KΦ (g : Nat) (L : List Kd) (k : Nat) (v : Value) (w : World) : Prop := (L.getD k (.val undef)).holds g w v
theorem KΦ.stable (g : Nat) (L : List Kd) : ∀ k v w w', Fr (· = g) w w' → KΦ g L k v w → KΦ g L k v w' := by
  intro k v w w' hf h
  unfold KΦ at *
  cases hL : L.getD k (.val undef) with
  | sl l =>
    rw [hL] at h
    exact ⟨h.1.fr hf (fun hn q _ hq hg => h.2 hn (by rw [hq, hg])), h.2⟩
  | val u => rw [hL] at h; exact h
theorem sl_own {w : World} {B : Nat} {v : Value} {n : Nat} {l : List UInt8} {g : Nat} (h : Own w B 1 v n (bvs l)) (hg : g < B) (hn : n = l.length) : Sl w 1 v l.length (bvs l) ∧ (0 < l.length → v.ownBlock ≠ some g) := by
  subst hn
  exact ⟨h.sl, fun hp e => by have := h.old e hp; omega⟩
set_option maxHeartbeats 4000000 in
theorem main (w : World) (v : Int) (hv : I64 v) (v0 : 0 ≤ v) (x0 : Value) (lx : List UInt8) (hx : Sl w 1 x0 lx.length (bvs lx)) (s : ByteArray) (k : List UInt8) (hk : k.length = 32) (h1 : lx.length ≤ 200) (h2 : s.size ≤ 200) :
    Calls Try.prog 5 #[.int .i64 v, x0, .string s, .agg (bvs k).toArray] w fun e w' => e = .returned (.bool true) ∧ Below w.heap.size w w' := by
  obtain ⟨ua, uc, rfl⟩ := hx.form
  have HS := Held.mk hx
  have HV := Held.mk hv
  have HK := Held.mk hk
  have h1i : (lx.length : Int) ≤ 200 := by omega
  have h2i : (s.size : Int) ≤ 200 := by omega
  have hds : s.data.toList.length = s.size := by rw [Array.length_toList]; rfl
  have HD := Held.mk hds
  obtain ⟨ls, hls⟩ : ∃ ls, ls = s.data.toList := ⟨_, rfl⟩
  have HLS := Held.mk hls
  have hE := enc_len v.toNat (by have := hv.hi; omega)
  have hlx := lenE_length lx ⟨by omega⟩
  have hlsl : ls.length ≤ 200 := by rw [hls, hds]; exact h2
  have hlls := lenE_length ls ⟨by omega⟩
  have HEn := Held.mk (And.intro hE (And.intro hlx hlls))
  have key : ∃ W, Held (W = w.alloc (.cells (bvs k).toArray 31)) ∧ Held (W.heap[w.heap.size]? = some (.cells (bvs k).toArray 31 (0, 0))) ∧ Held (Below w.heap.size w W) ∧ w.heap.size + 1 ≤ W.heap.size :=
    ⟨_, ⟨rfl⟩, ⟨laid0 _ _⟩, ⟨(Below.refl _ _).alloc (Nat.le_refl _) _⟩, by simp⟩
  obtain ⟨W, hW, GA, HL, hs⟩ := key
  clear hx hv hk hds hls hE hlx hlls
  go_enter Try.func5, Try.ntmps5
  go_wp2_with (first
    | rw [← hW.out]
    | (go_at_call 14; refine (awake11_any _).mono ?_; rintro e w1 ⟨rfl, hb1⟩))
  have hz1 := hb1.size
  have B1 : Held (Below w.heap.size w w1) := ⟨HL.out.trans (hb1.mono HL.out.size)⟩
  have R1 : Held (w1.rangeAt w.heap.size 0 (bvs k)) := ⟨by have := rangeAt_of ((hb1.block _ (by omega)).trans GA.out); simpa using this⟩
  clear hb1
  have hinfo : (Try.prog.info? 31).map (·.size) = some (bvs k).length := by rw [bvs_length, HK.out]; kernel_rfl
  have HI := Held.mk hinfo
  clear hinfo
  refine wp_region_rel [.agg (bvs k).toArray] 4 (SlΦ [enc v.toNat, enc v.toNat ++ lenE lx, (enc v.toNat ++ lenE lx) ++ lenE ls, ((enc v.toNat ++ lenE lx) ++ lenE ls) ++ k])
    [(sop [0, 31] [.var 7], .var 80, [])]
    [⟨1, 0, sop [1, 15] [.nil, .var 0], []⟩, ⟨3, 1, sop [1, 24] [.var 81, .var 1], [0]⟩, ⟨5, 2, sop [1, 22] [.var 82, .var 2], [1]⟩, ⟨7, 3, sop [1, 23] [.var 83, .var 80], [2]⟩]
    (by kernel_rfl) (SlΦ.stable _) ?_ ?_ 80 81 rfl rfl 9 (.var 84) (by kernel_rfl) fun x t φ hts h9 hkeep hΦ => ?_
  · exact allFR_cons (FactR.load fun φ => LoadQ.of Try.underlying31 rfl HI.out R1.out) allFR_nil
  · refine allZ_cons (FreshR.call (IsFn.mk' Try.func15 (by kernel_rfl) rfl) fun φ x _ => ?_) (allZ_cons (FreshR.call (IsFn.mk' Try.func24 (by kernel_rfl) rfl) fun φ x hd => ?_) (allZ_cons (FreshR.call (IsFn.mk' Try.func22 (by kernel_rfl) rfl) fun φ x hd => ?_) (allZ_cons (FreshR.call (IsFn.mk' Try.func23 (by kernel_rfl) rfl) fun φ x hd => ?_) allZ_nil)))
    · exact (num_nil v x.w HV.out).mono fun e w' ⟨r, he, ho, hb⟩ => ⟨r, he, ofExt x hb, ho.sl⟩
    · have h0 : Sl x.w 1 (φ.getD 0 Go.undef) (enc v.toNat).length (bvs (enc v.toNat)) := hd 0 (by simp)
      exact (wbytes_any (φ.getD 0 Go.undef) _ (enc v.toNat) lx x.w h0 ((HS.out.grow B1.out).grow x.below) ⟨by have := HEn.out; omega⟩).mono fun e w' ⟨r, he, ho, hb⟩ => ⟨r, he, ofExt x hb, ho.sl⟩
    · have h0 : Sl x.w 1 (φ.getD 1 Go.undef) (enc v.toNat ++ lenE lx).length (bvs (enc v.toNat ++ lenE lx)) := hd 1 (by simp)
      exact (wtext_any (φ.getD 1 Go.undef) s _ x.w h0 ⟨by have := HEn.out; rw [List.length_append]; omega⟩).mono fun e w' ⟨r, he, ho, hb⟩ => ⟨r, he, ofExt x hb, by rw [← HLS.out] at ho; exact ho.sl⟩
    · have h0 : Sl x.w 1 (φ.getD 2 Go.undef) ((enc v.toNat ++ lenE lx) ++ lenE ls).length (bvs ((enc v.toNat ++ lenE lx) ++ lenE ls)) := hd 2 (by simp)
      exact (wword_any (φ.getD 2 Go.undef) _ k x.w h0 HK.out ⟨by have := HEn.out; rw [List.length_append, List.length_append]; omega⟩).mono fun e w' ⟨r, he, ho, hb⟩ => ⟨r, he, ofExt x hb, ho.sl⟩
  obtain ⟨L, hL⟩ : ∃ L, L = ((enc v.toNat ++ lenE lx) ++ lenE ls) ++ k := ⟨_, rfl⟩
  obtain ⟨r9, hr9⟩ : ∃ r9, r9 = φ.getD 3 Go.undef := ⟨_, rfl⟩
  have S9 : Sl x.w 1 r9 L.length (bvs L) := by rw [hr9, hL]; exact hΦ 3 rfl
  obtain ⟨ra, rc, rfl⟩ := S9.form
  have H9 := Held.mk S9
  have HLL := Held.mk hL
  have hLlen : Held (L.length ≤ 500) := ⟨by rw [hL]; simp only [List.length_append]; have := HEn.out; have := HK.out; omega⟩
  have f9 : t.getD 9 Go.undef = .slice ra L.length rc := by rw [hr9]; exact h9
  have f0 : t.getD 0 Go.undef = .int .i64 v := by rw [Array.getD_eq_getD_getElem?, hkeep 0 (by kernel_rfl)]; rfl
  have f1 : t.getD 1 Go.undef = .slice ua lx.length uc := by rw [Array.getD_eq_getD_getElem?, hkeep 1 (by kernel_rfl)]; rfl
  have f2 : t.getD 2 Go.undef = .string s := by rw [Array.getD_eq_getD_getElem?, hkeep 2 (by kernel_rfl)]; rfl
  have f7 : t.getD 7 Go.undef = .pointer (some ⟨w.heap.size, 0, none⟩) := by rw [Array.getD_eq_getD_getElem?, hkeep 7 (by kernel_rfl)]; rfl
  have et := frame_lit t 80 hts [t.getD 0 Go.undef, t.getD 1 Go.undef, t.getD 2 Go.undef, t.getD 3 Go.undef, t.getD 4 Go.undef, t.getD 5 Go.undef, t.getD 6 Go.undef, t.getD 7 Go.undef, t.getD 8 Go.undef, t.getD 9 Go.undef, t.getD 10 Go.undef, t.getD 11 Go.undef, t.getD 12 Go.undef, t.getD 13 Go.undef, t.getD 14 Go.undef, t.getD 15 Go.undef, t.getD 16 Go.undef, t.getD 17 Go.undef, t.getD 18 Go.undef, t.getD 19 Go.undef, t.getD 20 Go.undef, t.getD 21 Go.undef, t.getD 22 Go.undef, t.getD 23 Go.undef, t.getD 24 Go.undef, t.getD 25 Go.undef, t.getD 26 Go.undef, t.getD 27 Go.undef, t.getD 28 Go.undef, t.getD 29 Go.undef, t.getD 30 Go.undef, t.getD 31 Go.undef, t.getD 32 Go.undef, t.getD 33 Go.undef, t.getD 34 Go.undef, t.getD 35 Go.undef, t.getD 36 Go.undef, t.getD 37 Go.undef, t.getD 38 Go.undef, t.getD 39 Go.undef, t.getD 40 Go.undef, t.getD 41 Go.undef, t.getD 42 Go.undef, t.getD 43 Go.undef, t.getD 44 Go.undef, t.getD 45 Go.undef, t.getD 46 Go.undef, t.getD 47 Go.undef, t.getD 48 Go.undef, t.getD 49 Go.undef, t.getD 50 Go.undef, t.getD 51 Go.undef, t.getD 52 Go.undef, t.getD 53 Go.undef, t.getD 54 Go.undef, t.getD 55 Go.undef, t.getD 56 Go.undef, t.getD 57 Go.undef, t.getD 58 Go.undef, t.getD 59 Go.undef, t.getD 60 Go.undef, t.getD 61 Go.undef, t.getD 62 Go.undef, t.getD 63 Go.undef, t.getD 64 Go.undef, t.getD 65 Go.undef, t.getD 66 Go.undef, t.getD 67 Go.undef, t.getD 68 Go.undef, t.getD 69 Go.undef, t.getD 70 Go.undef, t.getD 71 Go.undef, t.getD 72 Go.undef, t.getD 73 Go.undef, t.getD 74 Go.undef, t.getD 75 Go.undef, t.getD 76 Go.undef, t.getD 77 Go.undef, t.getD 78 Go.undef, t.getD 79 Go.undef] (by kernel_rfl)
  rw [f0, f1, f2, f7, f9] at et
  rw [et]
  have B2 : Held (Below w.heap.size w x.w) := ⟨B1.out.trans (x.below.mono B1.out.size)⟩
  have R2 : Held (x.w.rangeAt w.heap.size 0 (bvs k)) := ⟨x.fr.range id R1.out⟩
  have hz2 : w.heap.size < x.w.heap.size := by have := x.below.size; omega
  clear h9 hkeep hΦ et f0 f1 f2 f7 f9 S9 hr9 hL R1 B1
  go_wp2_with fail
  refine (read_any _ L _ H9.out ⟨by have := hLlen.out; omega⟩).mono ?_
  rintro e w3 ⟨g, q, rfl, hr3, hg3, hq3, hb3⟩
  have HR := Held.mk hr3
  have B3 : Held (Below w.heap.size w w3) := ⟨B2.out.trans (hb3.mono B2.out.size)⟩
  have R3 : Held (w3.rangeAt w.heap.size 0 (bvs k)) := ⟨fun j u hj => by rw [hb3.cell (p := ⟨w.heap.size, 0 + j, none⟩) hz2]; exact R2.out j u hj⟩
  have H3 := Held.mk (H9.out.grow hb3)
  have hgw : w.heap.size < g := by omega
  clear hr3 hb3 H9 R2 B2
  go_wp2_with fail
  refine wp_region_rel [.string ⟨L.toArray⟩, .agg (bvs k).toArray] 5 (SlΦ [enc v.toNat, enc v.toNat ++ lenE lx, ls, (enc v.toNat ++ lenE lx) ++ lenE ls, ((enc v.toNat ++ lenE lx) ++ lenE ls) ++ k])
    [(sop [3, 0, 25] [.var 10, .nilp], .bool false, []), (sop [7, 23, 9] [.var 9], .var 80, []), (sop [0, 31] [.var 7], .var 81, []), (sop [7, 23, 9] [.var 86], .var 80, [4]), (sop [3, 1, 9] [.var 80, .var 80], .bool false, [])]
    [⟨6, 0, sop [1, 27] [.nil, .var 0], []⟩, ⟨8, 1, sop [1, 26] [.var 82, .var 1], [0]⟩, ⟨10, 2, sop [7, 9, 23] [.var 2], []⟩, ⟨11, 3, sop [1, 26] [.var 83, .var 84], [1, 2]⟩, ⟨13, 4, sop [1, 25] [.var 85, .var 81], [3]⟩]
    (by kernel_rfl) (SlΦ.stable _) ?_ ?_ 80 82 rfl rfl 51 (.bool false) (by kernel_rfl) fun x3 t φ hts h51 hkeep _ => ?_
  · refine allFR_cons (FactR.bin eqlN fun φ => BinQ.ptrNil (by kernel_rfl)) (allFR_cons (FactR.conv fun φ x _ => (H3.out.grow x.below).str _ _ 5 Try.underlying9 Try.underlying23 Try.underlying5) (allFR_cons (FactR.load fun φ => LoadQ.of Try.underlying31 rfl HI.out R3.out)
      (allFR_cons (FactR.conv fun φ x hd => ?_) (allFR_cons (FactR.bin neqN fun φ => BinQ.nstr (by simp)) allFR_nil))))
    have h4 : Sl x.w 1 (φ.getD 4 Go.undef) (((enc v.toNat ++ lenE lx) ++ lenE ls) ++ k).length (bvs (((enc v.toNat ++ lenE lx) ++ lenE ls) ++ k)) := hd 4 (by simp)
    rw [← HLL.out] at h4
    exact h4.str _ _ 5 Try.underlying9 Try.underlying23 Try.underlying5
  · refine allZ_cons (FreshR.call (IsFn.mk' Try.func27 (by kernel_rfl) rfl) fun φ x _ => ?_) (allZ_cons (FreshR.call (IsFn.mk' Try.func26 (by kernel_rfl) rfl) fun φ x hd => ?_) (allZ_cons (FreshR.conv fun φ x hd => ?_) (allZ_cons (FreshR.call (IsFn.mk' Try.func26 (by kernel_rfl) rfl) fun φ x hd => ?_) (allZ_cons (FreshR.call (IsFn.mk' Try.func25 (by kernel_rfl) rfl) fun φ x hd => ?_) allZ_nil))))
    · exact (r11num_any _ [] v x.w (Sl.zero _ _) ⟨by decide⟩ HV.out).mono fun e w' ⟨r, he, ho, hb⟩ => ⟨r, he, ofExt x hb, ho.sl⟩
    · have h0 : Sl x.w 1 (φ.getD 0 Go.undef) (enc v.toNat).length (bvs (enc v.toNat)) := hd 0 (by simp)
      exact (r11bytes_any (φ.getD 0 Go.undef) _ (enc v.toNat) lx x.w h0 ((HS.out.grow B3.out).grow x.below) ⟨by have := HEn.out; omega⟩).mono fun e w' ⟨r, he, ho, hb⟩ => ⟨r, he, ofExt x hb, ho.sl⟩
    · obtain ⟨v', w', h1, h2, h3⟩ := run_str_bytes (P := Try.prog) (w := x.w) 9 23 5 (s := s) Try.underlying9 Try.underlying23 Try.underlying5 ⟨by omega⟩
      refine ⟨v', w', h1, ofExt x h3, ?_⟩
      have h4 := h2.sl
      rw [← HD.out, ← HLS.out] at h4
      exact h4
    · have h0 : Sl x.w 1 (φ.getD 1 Go.undef) (enc v.toNat ++ lenE lx).length (bvs (enc v.toNat ++ lenE lx)) := hd 1 (by simp)
      have h2 : Sl x.w 1 (φ.getD 2 Go.undef) ls.length (bvs ls) := hd 2 (by simp)
      exact (r11bytes_any (φ.getD 1 Go.undef) (φ.getD 2 Go.undef) _ ls x.w h0 h2 ⟨by have := HEn.out; rw [List.length_append]; omega⟩).mono fun e w' ⟨r, he, ho, hb⟩ => ⟨r, he, ofExt x hb, ho.sl⟩
    · have h0 : Sl x.w 1 (φ.getD 3 Go.undef) ((enc v.toNat ++ lenE lx) ++ lenE ls).length (bvs ((enc v.toNat ++ lenE lx) ++ lenE ls)) := hd 3 (by simp)
      exact (r11word_any (φ.getD 3 Go.undef) _ k x.w h0 HK.out ⟨by have := HEn.out; rw [List.length_append, List.length_append]; omega⟩).mono fun e w' ⟨r, he, ho, hb⟩ => ⟨r, he, ofExt x hb, ho.sl⟩
  have f0 : t.getD 0 Go.undef = .int .i64 v := by rw [Array.getD_eq_getD_getElem?, hkeep 0 (by kernel_rfl)]; rfl
  have f1 : t.getD 1 Go.undef = .slice ua lx.length uc := by rw [Array.getD_eq_getD_getElem?, hkeep 1 (by kernel_rfl)]; rfl
  have f2 : t.getD 2 Go.undef = .string s := by rw [Array.getD_eq_getD_getElem?, hkeep 2 (by kernel_rfl)]; rfl
  have f7 : t.getD 7 Go.undef = .pointer (some ⟨w.heap.size, 0, none⟩) := by rw [Array.getD_eq_getD_getElem?, hkeep 7 (by kernel_rfl)]; rfl
  have f10 : t.getD 10 Go.undef = .pointer (some ⟨g, 0, none⟩) := by rw [Array.getD_eq_getD_getElem?, hkeep 10 (by kernel_rfl)]; rfl
  have f51 : t.getD 51 Go.undef = .bool false := h51
  have et := frame_lit t 80 hts [t.getD 0 Go.undef, t.getD 1 Go.undef, t.getD 2 Go.undef, t.getD 3 Go.undef, t.getD 4 Go.undef, t.getD 5 Go.undef, t.getD 6 Go.undef, t.getD 7 Go.undef, t.getD 8 Go.undef, t.getD 9 Go.undef, t.getD 10 Go.undef, t.getD 11 Go.undef, t.getD 12 Go.undef, t.getD 13 Go.undef, t.getD 14 Go.undef, t.getD 15 Go.undef, t.getD 16 Go.undef, t.getD 17 Go.undef, t.getD 18 Go.undef, t.getD 19 Go.undef, t.getD 20 Go.undef, t.getD 21 Go.undef, t.getD 22 Go.undef, t.getD 23 Go.undef, t.getD 24 Go.undef, t.getD 25 Go.undef, t.getD 26 Go.undef, t.getD 27 Go.undef, t.getD 28 Go.undef, t.getD 29 Go.undef, t.getD 30 Go.undef, t.getD 31 Go.undef, t.getD 32 Go.undef, t.getD 33 Go.undef, t.getD 34 Go.undef, t.getD 35 Go.undef, t.getD 36 Go.undef, t.getD 37 Go.undef, t.getD 38 Go.undef, t.getD 39 Go.undef, t.getD 40 Go.undef, t.getD 41 Go.undef, t.getD 42 Go.undef, t.getD 43 Go.undef, t.getD 44 Go.undef, t.getD 45 Go.undef, t.getD 46 Go.undef, t.getD 47 Go.undef, t.getD 48 Go.undef, t.getD 49 Go.undef, t.getD 50 Go.undef, t.getD 51 Go.undef, t.getD 52 Go.undef, t.getD 53 Go.undef, t.getD 54 Go.undef, t.getD 55 Go.undef, t.getD 56 Go.undef, t.getD 57 Go.undef, t.getD 58 Go.undef, t.getD 59 Go.undef, t.getD 60 Go.undef, t.getD 61 Go.undef, t.getD 62 Go.undef, t.getD 63 Go.undef, t.getD 64 Go.undef, t.getD 65 Go.undef, t.getD 66 Go.undef, t.getD 67 Go.undef, t.getD 68 Go.undef, t.getD 69 Go.undef, t.getD 70 Go.undef, t.getD 71 Go.undef, t.getD 72 Go.undef, t.getD 73 Go.undef, t.getD 74 Go.undef, t.getD 75 Go.undef, t.getD 76 Go.undef, t.getD 77 Go.undef, t.getD 78 Go.undef, t.getD 79 Go.undef] (by kernel_rfl)
  rw [f0, f1, f2, f7, f10, f51] at et
  rw [et]
  have B4 : Held (Below w.heap.size w x3.w) := ⟨B3.out.trans (x3.below.mono B3.out.size)⟩
  have R4 : Held (x3.w.rangeAt w.heap.size 0 (bvs k)) := ⟨x3.fr.range id R3.out⟩
  have HR4 := Held.mk (HR.out.grow x3.below)
  clear h51 hkeep et f0 f1 f2 f7 f10 f51 R3 B3 H3 HR
  go_wp2_with fail
  have hSL : ∀ x : ExtS (· = g) x3.w, Sl x.w 1 (.slice ua lx.length uc) lx.length (bvs lx) := fun x => (HS.out.grow B4.out).fr x.fr (fun hn q _ hq hg => by
    have := HS.out.blk hn hq; omega)
  have hRG : ∀ x : ExtS (· = g) x3.w, x.w.rangeAt w.heap.size 0 (bvs k) := fun x => x.fr.range (by omega) R4.out
  have hgx : ∀ x : ExtS (· = g) x3.w, g < x.w.heap.size := fun x => Nat.lt_of_lt_of_le HR4.out.lt x.fr.size
  have HSL := Held.mk hSL
  have HRG := Held.mk hRG
  have HGX := Held.mk hgx
  have eL : L = enc v.toNat ++ (lenE lx ++ (lenE ls ++ k)) := by rw [HLL.out]; simp only [List.append_assoc]
  have HL2 := Held.mk eL
  clear hSL hRG hgx eL
  refine wp_region_st (· = g) (fun j w => Rdr w g q ([L, lenE lx ++ (lenE ls ++ k), lenE ls ++ k, k, [], []].getD j []) false) [.string ⟨lx.toArray⟩, .agg (bvs k).toArray] 5 (KΦ g [.val (.int .i64 v), .sl lx, .val (.string s), .val (.agg (bvs k).toArray), .val (.bool true)])
    [(sop [3, 0, 2] [.var 82, .var 0], .bool true, [0]), (sop [7, 23, 9] [.var 83], .var 80, [1]), (sop [7, 23, 9] [.var 1], .var 80, []), (sop [3, 0, 9] [.var 80, .var 80], .bool true, []), (sop [3, 0, 9] [.var 84, .var 2], .bool true, [2]), (sop [0, 31] [.var 7], .var 81, []), (sop [3, 0, 31] [.var 85, .var 81], .bool true, [3])]
    [⟨1, 0, sop [1, 17] [.var 10, .int .i64 9223372036854775807], []⟩, ⟨6, 1, sop [1, 19] [.var 10, .int .i64 200], []⟩, ⟨14, 2, sop [1, 28] [.var 10, .int .i64 200], []⟩, ⟨20, 3, sop [1, 21] [.var 10], []⟩, ⟨26, 4, sop [1, 20] [.var 10], []⟩]
    [1, 6, 14, 20, 26]
    (by kernel_rfl) (KΦ.stable _ _) (fun j a b hf h => h.fr hf id (fun _ => id)) HR4.out ?_ ?_ 80 82 rfl rfl 8 (.var 86) (by kernel_rfl) fun x4 t φ hts h8 hkeep hΦ _ => ?_
  · have hstr : ∀ (a : List UInt8) (φ : List Value), BinQ Try.prog .eql 9 (.string ⟨a.toArray⟩) (.string ⟨a.toArray⟩) (.bool true) := fun a φ => BinQ.str (by simp)
    refine allFS_cons (FactS.of fun x => FactR.binD eqlN fun φ z hd => ?_) (allFS_cons (FactS.of fun x => FactR.conv fun φ z hd => ?_) (allFS_cons (FactS.of fun x => FactR.conv fun φ z hd => ?_) (allFS_cons (FactS.of fun x => FactR.bin eqlN fun φ => hstr _ φ) (allFS_cons (FactS.of fun x => FactR.binD eqlN fun φ z hd => ?_) (allFS_cons (FactS.of fun x => FactR.load fun φ => LoadQ.of Try.underlying31 rfl HI.out (HRG.out x)) (allFS_cons (FactS.of fun x => FactR.binD eqlN fun φ z hd => ?_) allFS_nil))))))
    · have h0 : φ.getD 0 Go.undef = .int .i64 v := hd 0 (by simp)
      show BinQ Try.prog .eql _ (φ.getD 0 Go.undef) (.int .i64 v) (.bool true)
      rw [h0]; exact BinQ.int (by simp)
    · have h0 : Sl z.w 1 (φ.getD 1 Go.undef) lx.length (bvs lx) := (hd 1 (by simp)).1
      exact h0.str _ _ 5 Try.underlying9 Try.underlying23 Try.underlying5
    · exact ((HSL.out x).grow z.below).str _ _ 5 Try.underlying9 Try.underlying23 Try.underlying5
    · have h0 : φ.getD 2 Go.undef = .string s := hd 2 (by simp)
      show BinQ Try.prog .eql _ (φ.getD 2 Go.undef) (.string s) (.bool true)
      rw [h0]; exact ⟨fun w x y => by simp [go_sem]⟩
    · have h0 : φ.getD 3 Go.undef = .agg (bvs k).toArray := hd 3 (by simp)
      show BinQ Try.prog .eql _ (φ.getD 3 Go.undef) (.agg (bvs k).toArray) (.bool true)
      rw [h0]
      refine BinQ.agg (by kernel_rfl) fun w => ?_
      obtain ⟨i0, hi, hz0, hz1, hz2⟩ := info_parts infoB
      have := run_eqBytes (P := Try.prog) w 31 5 32 Try.underlying31 Try.underlying5 hi hz1 k k HK.out HK.out
      rwa [beq_self_eq_true] at this
  · have fitL : ∀ R : List UInt8, R.length ≤ 500 → Fits R.length := fun R h => ⟨by omega⟩
    refine allZS_cons (j := some 0) (by kernel_rfl) (FreshS.call (IsFn.mk' Try.func17 (by kernel_rfl) rfl) fun φ x hd hR => ?_) (allZS_cons (j := some 1) (by kernel_rfl) (FreshS.call (IsFn.mk' Try.func19 (by kernel_rfl) rfl) fun φ x hd hR => ?_) (allZS_cons (j := some 2) (by kernel_rfl) (FreshS.call (IsFn.mk' Try.func28 (by kernel_rfl) rfl) fun φ x hd hR => ?_)
      (allZS_cons (j := some 3) (by kernel_rfl) (FreshS.call (IsFn.mk' Try.func21 (by kernel_rfl) rfl) fun φ x hd hR => ?_) (allZS_cons (j := some 4) (by kernel_rfl) (FreshS.call (IsFn.mk' Try.func20 (by kernel_rfl) rfl) fun φ x hd hR => ?_) allZS_nil))))
    · have hR0 : Rdr x.w g q (enc v.toNat ++ (lenE lx ++ (lenE ls ++ k))) false := by rw [← HL2.out]; exact hR
      obtain ⟨q1, q2, q3⟩ := rd_num v v0 9223372036854775807 HV.out.hi HV.out (lenE lx ++ (lenE ls ++ k)) false
      refine (rnum_any g q _ false 9223372036854775807 x.w hR0).mono fun e w' ⟨he, hr, hf⟩ => ⟨_, he, hf, ?_, ?_⟩
      · rw [q2, q3] at hr; exact hr
      · rw [q1]; rfl
    · have hR0 : Rdr x.w g q (lenE lx ++ (lenE ls ++ k)) false := hR
      obtain ⟨q1, q2, q3⟩ := rd_bytes lx (lenE ls ++ k) 200 h1i h1
      refine (rbytes_any g q _ false 200 x.w hR0 (fitL _ (by simp only [List.length_append]; have := HEn.out; have := HK.out; omega))).mono fun e w' ⟨r, he, ho, hr, hf⟩ => ⟨r, he, hf, ?_, ?_⟩
      · rw [q2, q3] at hr; exact hr
      · rw [q1] at ho; exact sl_own ho (HGX.out x) rfl
    · have hR0 : Rdr x.w g q (lenE ls ++ k) false := hR
      obtain ⟨q1, q2, q3⟩ := rd_bytes ls k 200 (by omega) hlsl
      refine (rtext_any g q _ false 200 x.w hR0 (fitL _ (by simp only [List.length_append]; have := HEn.out; have := HK.out; omega))).mono fun e w' ⟨he, hr, hf⟩ => ⟨_, he, hf, ?_, ?_⟩
      · rw [q2, q3] at hr; exact hr
      · rw [q1, HLS.out]; rfl
    · have hR0 : Rdr x.w g q k false := hR
      refine (rword_any g q _ false x.w hR0 (fitL _ (by have := HK.out; omega))).mono fun e w' ⟨he, hr, hf⟩ => ⟨_, he, hf, ?_, ?_⟩
      · have e1 : takeL 32 k = [] := by unfold takeL; rw [if_pos (by rw [HK.out]; exact Nat.le_refl _), List.drop_of_length_le (by rw [HK.out]; exact Nat.le_refl _)]
        have e2 : takeB 32 k false = false := by unfold takeB; rw [if_pos (by rw [HK.out]; exact Nat.le_refl _)]
        rw [e1, e2] at hr; exact hr
      · have e3 : wordV k = k := by unfold wordV; rw [if_pos (by rw [HK.out]; exact Nat.le_refl _), List.take_of_length_le (by rw [HK.out]; exact Nat.le_refl _)]
        rw [e3]; rfl
    · have hR0 : Rdr x.w g q [] false := hR
      refine (rend_any g q _ false x.w hR0).mono fun e w' ⟨he, hw⟩ => ⟨_, he, ?_, ?_, rfl⟩
      · rw [← hw]; exact Fr.refl _ _
      · rw [← hw]; exact hR0
  have f8 : t.getD 8 Go.undef = .bool true := by rw [show t.getD 8 Go.undef = φ.getD 4 Go.undef from h8]; exact hΦ 4 rfl
  clear h8 hkeep hΦ
  go_wp2
  go_ret
  refine ⟨by rw [f8], B4.out.trans (x4.fr.below B4.out.size fun i hi e => by omega)⟩
theorem walk (w : World) (v : Int) (hv : I64 v) (x0 : Value) (lx : List UInt8) (hx : Sl w 1 x0 lx.length (bvs lx)) (s : ByteArray) {p : Prop} (_hs : p) (k : List UInt8) (hk : k.length = 32) :
    Calls Try.prog 5 #[.int .i64 v, x0, .string s, .agg (bvs k).toArray] w fun e w' => e = .returned (.bool true) ∧ Below w.heap.size w w' := by
  by_cases h : 0 ≤ v ∧ lx.length ≤ 200 ∧ s.size ≤ 200
  · exact main w v hv h.1 x0 lx hx s k hk h.2.1 h.2.2
  · obtain ⟨ua, uc, rfl⟩ := hx.form
    have key : ∃ W, Held (W = w.alloc (.cells (bvs k).toArray 31)) ∧ Held (Below w.heap.size w W) := ⟨_, ⟨rfl⟩, ⟨(Below.refl _ _).alloc (Nat.le_refl _) _⟩⟩
    obtain ⟨W, hW, HL⟩ := key
    have h2 : v < 0 ∨ (0 ≤ v ∧ 200 < lx.length) ∨ (0 ≤ v ∧ lx.length ≤ 200 ∧ 200 < s.size) := by omega
    clear hx h hv
    rcases h2 with h2 | ⟨h2, h3⟩ | ⟨h2, h3, h4⟩
    · go_enter Try.func5, Try.ntmps5
      go_wp2_with (first | rw [← hW.out] | (go_at_call 14; refine (awake11_any _).mono ?_; rintro e w1 ⟨rfl, hb1⟩))
      go_ret
      exact ⟨rfl, HL.out.trans (hb1.mono HL.out.size)⟩
    · have h3i : (200 : Int) < (lx.length : Int) := by omega
      go_enter Try.func5, Try.ntmps5
      go_wp2_with (first | rw [← hW.out] | (go_at_call 14; refine (awake11_any _).mono ?_; rintro e w1 ⟨rfl, hb1⟩))
      go_ret
      exact ⟨rfl, HL.out.trans (hb1.mono HL.out.size)⟩
    · have h3i : (lx.length : Int) ≤ 200 := by omega
      have h4i : (200 : Int) < (s.size : Int) := by omega
      go_enter Try.func5, Try.ntmps5
      go_wp2_with (first | rw [← hW.out] | (go_at_call 14; refine (awake11_any _).mono ?_; rintro e w1 ⟨rfl, hb1⟩))
      go_ret
      exact ⟨rfl, HL.out.trans (hb1.mono HL.out.size)⟩
end Go.Proofs.Ytlmegcbiijkmaaa.wireBack
