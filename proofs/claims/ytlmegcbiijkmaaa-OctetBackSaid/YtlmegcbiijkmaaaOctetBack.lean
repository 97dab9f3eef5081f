/- OctetBack: the walk. No condition. -/
import Derived.Test.YtlmegcbiijkmaaaOct3
import Derived.Test.YtlmegcbiijkmaaaRel
namespace Go.Proofs.Ytlmegcbiijkmaaa.octetBack
open Go.RowKit Go.Bx

/-- Two slices read as texts. -/
abbrev Str2 (u v : Value) (s t : ByteArray) (w : World) : Prop :=
  (convert 23 9 u).run Try.prog w = .ok (.string s) w ∧ (convert 23 9 v).run Try.prog w = .ok (.string t) w
theorem str2_of {w : World} {u v : Value} {n m : Nat} {a b : List UInt8} (hu : Sl w 1 u n (bvs a)) (hv : Sl w 1 v m (bvs b)) : Str2 u v ⟨a.toArray⟩ ⟨b.toArray⟩ w :=
  ⟨hu.str 23 9 5 Try.underlying9 Try.underlying23 Try.underlying5, hv.str 23 9 5 Try.underlying9 Try.underlying23 Try.underlying5⟩
theorem fb8 (v : Int) (v0 : 0 ≤ v) (v1 : v < 18446744073709551616) : frbV ([] ++ bigB v.toNat (held8 8)) = v ∧ frbE ([] ++ bigB v.toNat (held8 8)) = 0 := by
  rw [List.nil_append, show held8 8 = 8 from by decide, frbV, frbE, bigB_len, if_pos (by omega), if_pos (by omega), fromB_bigB8 _ (by omega)]
  exact ⟨by omega, rfl⟩
theorem fl8 (v : Int) (v0 : 0 ≤ v) (v1 : v < 18446744073709551616) : frbV ([] ++ litB v.toNat (held8 8)).reverse = v ∧ frbE ([] ++ litB v.toNat (held8 8)).reverse = 0 := by
  have := fb8 v v0 v1
  rw [List.nil_append, litB_rev]; rwa [List.nil_append] at this
theorem ux (l : List UInt8) : unV (hexB l) = l ∧ unE (hexB l) = 0 := unV_some (unhex_hex l)
theorem turnA (u : Value) (a : List UInt8) (w : World) (h : Sl w 1 u a.length (bvs a)) (hn : Fits a.length) :
    Calls Try.prog 48 #[u] w fun e w' => ∃ r, e = .returned r ∧ Sl w' 1 r a.reverse.length (bvs a.reverse) ∧ Below w.heap.size w w' :=
  (turn_any u a w h hn).mono fun _ _ ⟨r, he, ho, hb⟩ => ⟨r, he, by rw [List.length_reverse]; exact ho.sl, hb⟩
theorem turnB (u : Value) (a : List UInt8) (w : World) (h : Sl w 1 u a.reverse.length (bvs a.reverse)) (hn : Fits a.length) :
    Calls Try.prog 48 #[u] w fun e w' => ∃ r, e = .returned r ∧ (convert 23 9 r).run Try.prog w' = .ok (.string ⟨a.toArray⟩) w' ∧ Below w.heap.size w w' :=
  (turn_any u a.reverse w h (by rw [List.length_reverse]; exact hn)).mono fun _ _ ⟨r, he, ho, hb⟩ => ⟨r, he, by
    have h := ho.sl
    rw [List.reverse_reverse] at h
    exact h.str 23 9 5 Try.underlying9 Try.underlying23 Try.underlying5, hb⟩
theorem xorA (u v : Value) (a b : List UInt8) (w : World) (hu : Sl w 1 u a.length (bvs a)) (hv : Sl w 1 v b.length (bvs b)) (ha : Fits a.length) (hb : Fits b.length) :
    Calls Try.prog 49 #[u, v] w fun e w' => ∃ r, e = .returned r ∧ Sl w' 1 r (xorB a b).length (bvs (xorB a b)) ∧ Below w.heap.size w w' :=
  (xor_any u v a b w hu hv ha hb).mono fun _ _ ⟨r, he, ho, hb⟩ => ⟨r, he, ho.sl, hb⟩
theorem xorC (u v : Value) (a b : List UInt8) (w : World) (hu : Sl w 1 u (xorB a b).length (bvs (xorB a b))) (hv : Sl w 1 v b.length (bvs b)) (ha : Fits a.length) (hb : Fits b.length) (hab : a.length ≤ b.length) :
    Calls Try.prog 49 #[u, v] w fun e w' => ∃ r, e = .returned r ∧ (convert 23 9 r).run Try.prog w' = .ok (.string ⟨a.toArray⟩) w' ∧ Below w.heap.size w w' :=
  (xor_any u v (xorB a b) b w hu hv (ha.le (by rw [xorB_len]; omega)) hb).mono fun _ _ ⟨r, he, ho, hb⟩ => ⟨r, he, by
    have h := ho.sl
    rw [xorB_twice a b hab] at h
    exact h.str 23 9 5 Try.underlying9 Try.underlying23 Try.underlying5, hb⟩
set_option maxHeartbeats 4000000 in
theorem main (x0 y0 : Value) (a b : List UInt8) (v : Int) (v0 : 0 ≤ v) (v1 : v < 18446744073709551616) (w : World) (ha : Sl w 1 x0 a.length (bvs a)) (hb : Sl w 1 y0 b.length (bvs b)) (h1 : a.length ≤ 60) (h2 : b.length ≤ 60) :
    Calls Try.prog 13 #[x0, y0, .int .u64 v] w fun e w' => e = .returned (.bool true) ∧ Below w.heap.size w w' := by
  obtain ⟨ua, uc, rfl⟩ := ha.form
  obtain ⟨va, vc, rfl⟩ := hb.form
  have SA := Held.mk ha
  have SB := Held.mk hb
  have A0 := Held.mk ha
  have B0 := Held.mk hb
  have HV := Held.mk (And.intro v0 v1)
  clear ha hb v0 v1
  have h1i : (a.length : Int) ≤ 60 := by omega
  have h2i : (b.length : Int) ≤ 60 := by omega
  go_enter Try.func13, Try.ntmps13
  go_wp2_with (go_at_call 46; refine (awake1_any _).mono ?_; rintro e w1 ⟨rfl, hb1⟩)
  have S1 := Held.mk (And.intro (SA.out.grow hb1) (SB.out.grow hb1))
  clear SA SB
  refine (hex_any _ a _ S1.out.1 ⟨by omega⟩).mono ?_
  rintro e w2 ⟨rfl, hb2⟩
  have B2 := Held.mk (hb1.trans (hb2.mono hb1.size))
  have S2 := Held.mk (And.intro (S1.out.1.grow hb2) (S1.out.2.grow hb2))
  clear hb1 hb2 S1
  go_wp2_with fail
  refine (unhex_any _ ⟨by show (hexB a).length ≤ _; rw [hexB_len]; omega⟩ _).mono ?_
  rintro e w3 ⟨r3, rfl, ho3, hb3⟩
  rw [show unV (ByteArray.mk (hexB a).toArray).data.toList = a from (ux a).1] at ho3
  rw [show unE (ByteArray.mk (hexB a).toArray).data.toList = 0 from (ux a).2]
  have B3 := Held.mk (B2.out.trans (hb3.mono B2.out.size))
  have S3 := Held.mk (And.intro ho3.sl (And.intro (S2.out.1.grow hb3) (S2.out.2.grow hb3)))
  clear ho3 hb3 B2 S2
  go_wp2_with fail
  refine (big_any _ [] v HV.out.1 HV.out.2 8 _ (Sl.zero _ _) ⟨by decide⟩).mono ?_
  rintro e w4 ⟨r4, rfl, ho4, hb4⟩
  have B4 := Held.mk (B3.out.trans (hb4.mono B3.out.size))
  have S4 := Held.mk (And.intro (S3.out.1.grow hb4) (And.intro (S3.out.2.1.grow hb4) (S3.out.2.2.grow hb4)))
  clear hb4 B3 S3
  go_wp2_with fail
  refine (fromBig_any _ _ _ ho4.sl).mono ?_
  rintro e w5 ⟨rfl, rfl⟩
  rw [(fb8 v HV.out.1 HV.out.2).1, (fb8 v HV.out.1 HV.out.2).2]
  clear ho4
  go_wp2_with fail
  refine (little_any _ [] v HV.out.1 HV.out.2 8 _ (Sl.zero _ _) ⟨by decide⟩).mono ?_
  rintro e w6 ⟨r6, rfl, ho6, hb6⟩
  have B6 := Held.mk (B4.out.trans (hb6.mono B4.out.size))
  have S6 := Held.mk (And.intro (S4.out.1.grow hb6) (And.intro (S4.out.2.1.grow hb6) (S4.out.2.2.grow hb6)))
  clear hb6 B4 S4
  go_wp2_with fail
  refine (fromLittle_any _ _ _ ho6.sl ⟨by rw [List.nil_append, litB_len]; decide⟩).mono ?_
  rintro e w7 ⟨rfl, hb7⟩
  rw [(fl8 v HV.out.1 HV.out.2).1, (fl8 v HV.out.1 HV.out.2).2]
  have B7 := Held.mk (B6.out.trans (hb7.mono B6.out.size))
  have S7 := Held.mk (And.intro (S6.out.1.grow hb7) (And.intro (S6.out.2.1.grow hb7) (S6.out.2.2.grow hb7)))
  clear ho6 hb7 B6 S6
  go_wp2_with fail
  have hfa : Fits a.length := ⟨by omega⟩
  have hfb : Fits b.length := ⟨by omega⟩
  have SX : ∀ x : ExtW w7, Sl x.w 1 (.slice ua a.length uc) a.length (bvs a) ∧ Sl x.w 1 (.slice va b.length vc) b.length (bvs b) ∧ Sl x.w 1 r3 a.length (bvs a) := fun x =>
    ⟨S7.out.2.1.grow x.below, S7.out.2.2.grow x.below, S7.out.1.grow x.below⟩
  have HX := Held.mk SX
  clear SX S7
  refine wp_region_rel [.string ⟨a.toArray⟩] 2 (SlΦ [a.reverse, a])
    [(sop [3, 1, 68] [.var 8, .int .i64 0], .bool false, []), (sop [3, 1, 68] [.var 10, .int .i64 0], .bool false, []), (sop [3, 1, 68] [.var 12, .int .i64 0], .bool false, []),
     (sop [7, 23, 9] [.var 7], .var 93, []), (sop [7, 23, 9] [.var 0], .var 93, []), (sop [7, 23, 9] [.var 95], .var 93, [1]),
     (sop [3, 1, 9] [.var 93, .var 93], .bool false, []), (sop [3, 1, 64] [.var 9, .var 2], .bool false, []), (sop [3, 1, 64] [.var 11, .var 2], .bool false, [])]
    [⟨29, 0, sop [1, 48] [.var 0], []⟩, ⟨30, 1, sop [1, 48] [.var 94], [0]⟩]
    (by kernel_rfl) (SlΦ.stable _) ?_ ?_ 93 94 rfl rfl 76 (.bool false) (by kernel_rfl) fun x t φ hts h76 hkeep => ?_
  · refine allFR_cons (FactR.bin neqN fun φ => BinQ.nint rfl) (allFR_cons (FactR.bin neqN fun φ => BinQ.nint rfl) (allFR_cons (FactR.bin neqN fun φ => BinQ.nint rfl)
      (allFR_cons (FactR.conv fun φ x _ => (HX.out x).2.2.str _ _ 5 Try.underlying9 Try.underlying23 Try.underlying5) (allFR_cons (FactR.conv fun φ x _ => (HX.out x).1.str _ _ 5 Try.underlying9 Try.underlying23 Try.underlying5)
      (allFR_cons (FactR.conv fun φ x hd => (show Sl x.w 1 (φ.getD 1 Go.undef) a.length (bvs a) from hd 1 (by simp)).str _ _ 5 Try.underlying9 Try.underlying23 Try.underlying5)
      (allFR_cons (FactR.bin neqN fun φ => BinQ.nstr (by simp)) (allFR_cons (FactR.bin neqN fun φ => BinQ.nint (by simp)) (allFR_cons (FactR.bin neqN fun φ => BinQ.nint (by simp)) allFR_nil))))))))
  · refine allZ_cons (FreshR.call (IsFn.mk' Try.func48 (by kernel_rfl) rfl) fun φ x _ => ?_) (allZ_cons (FreshR.call (IsFn.mk' Try.func48 (by kernel_rfl) rfl) fun φ x hd => ?_) allZ_nil)
    · exact (turn_any _ a x.w (HX.out x).1 hfa).mono fun e w' ⟨r, he, ho, hb⟩ => ⟨r, he, ofExt x hb, by show Sl w' 1 r a.reverse.length _; rw [List.length_reverse]; exact ho.sl⟩
    · have h0 : Sl x.w 1 (φ.getD 0 Go.undef) a.reverse.length (bvs a.reverse) := hd 0 (by simp)
      refine (turn_any (φ.getD 0 Go.undef) a.reverse x.w h0 (by rw [List.length_reverse]; exact hfa)).mono fun e w' ⟨r, he, ho, hb⟩ => ⟨r, he, ofExt x hb, ?_⟩
      have h1 := ho.sl
      rw [List.reverse_reverse, List.length_reverse] at h1
      exact h1
  have e0 : t.getD 0 Go.undef = .slice ua a.length uc := by rw [Array.getD_eq_getD_getElem?, hkeep 0 (by kernel_rfl)]; rfl
  have e1 : t.getD 1 Go.undef = .slice va b.length vc := by rw [Array.getD_eq_getD_getElem?, hkeep 1 (by kernel_rfl)]; rfl
  have h76' : t.getD 76 Go.undef = .bool false := h76
  have et := frame_lit t 93 hts [t.getD 0 Go.undef, t.getD 1 Go.undef, t.getD 2 Go.undef, t.getD 3 Go.undef, t.getD 4 Go.undef, t.getD 5 Go.undef, t.getD 6 Go.undef, t.getD 7 Go.undef, t.getD 8 Go.undef, t.getD 9 Go.undef, t.getD 10 Go.undef, t.getD 11 Go.undef, t.getD 12 Go.undef, t.getD 13 Go.undef, t.getD 14 Go.undef, t.getD 15 Go.undef, t.getD 16 Go.undef, t.getD 17 Go.undef, t.getD 18 Go.undef, t.getD 19 Go.undef, t.getD 20 Go.undef, t.getD 21 Go.undef, t.getD 22 Go.undef, t.getD 23 Go.undef, t.getD 24 Go.undef, t.getD 25 Go.undef, t.getD 26 Go.undef, t.getD 27 Go.undef, t.getD 28 Go.undef, t.getD 29 Go.undef, t.getD 30 Go.undef, t.getD 31 Go.undef, t.getD 32 Go.undef, t.getD 33 Go.undef, t.getD 34 Go.undef, t.getD 35 Go.undef, t.getD 36 Go.undef, t.getD 37 Go.undef, t.getD 38 Go.undef, t.getD 39 Go.undef, t.getD 40 Go.undef, t.getD 41 Go.undef, t.getD 42 Go.undef, t.getD 43 Go.undef, t.getD 44 Go.undef, t.getD 45 Go.undef, t.getD 46 Go.undef, t.getD 47 Go.undef, t.getD 48 Go.undef, t.getD 49 Go.undef, t.getD 50 Go.undef, t.getD 51 Go.undef, t.getD 52 Go.undef, t.getD 53 Go.undef, t.getD 54 Go.undef, t.getD 55 Go.undef, t.getD 56 Go.undef, t.getD 57 Go.undef, t.getD 58 Go.undef, t.getD 59 Go.undef, t.getD 60 Go.undef, t.getD 61 Go.undef, t.getD 62 Go.undef, t.getD 63 Go.undef, t.getD 64 Go.undef, t.getD 65 Go.undef, t.getD 66 Go.undef, t.getD 67 Go.undef, t.getD 68 Go.undef, t.getD 69 Go.undef, t.getD 70 Go.undef, t.getD 71 Go.undef, t.getD 72 Go.undef, t.getD 73 Go.undef, t.getD 74 Go.undef, t.getD 75 Go.undef, t.getD 76 Go.undef, t.getD 77 Go.undef, t.getD 78 Go.undef, t.getD 79 Go.undef, t.getD 80 Go.undef, t.getD 81 Go.undef, t.getD 82 Go.undef, t.getD 83 Go.undef, t.getD 84 Go.undef, t.getD 85 Go.undef, t.getD 86 Go.undef, t.getD 87 Go.undef, t.getD 88 Go.undef, t.getD 89 Go.undef, t.getD 90 Go.undef, t.getD 91 Go.undef, t.getD 92 Go.undef] (by kernel_rfl)
  rw [e0, e1, h76'] at et
  rw [et]
  clear h76 hkeep et e0 e1 h76'
  go_wp2_with fail
  have B8 : Held (Below w.heap.size w x.w) := ⟨B7.out.trans (x.below.mono B7.out.size)⟩
  have HY : Held (∀ y : ExtW x.w, Sl y.w 1 (.slice ua a.length uc) a.length (bvs a) ∧ Sl y.w 1 (.slice va b.length vc) b.length (bvs b)) :=
    ⟨fun y => ⟨(HX.out x).1.grow y.below, (HX.out x).2.1.grow y.below⟩⟩
  obtain ⟨g, hg⟩ : ∃ g, decide ((b.length : Int) < (a.length : Int)) = g := ⟨_, rfl⟩
  cases g
  · have hab : a.length ≤ b.length := by have := of_decide_eq_false hg; omega
    refine wp_region_rel [.string ⟨a.toArray⟩, .int .i64 (a.length : Int), .int .i64 (b.length : Int)] 2 (SlΦ [xorB a b, a])
      [(sop [8, 23] [.var 0], .var 94, []), (sop [8, 23] [.var 1], .var 95, []), (sop [3, 4, 3] [.var 94, .var 95], .bool false, []),
       (sop [7, 23, 9] [.var 0], .var 93, []), (sop [7, 23, 9] [.var 97], .var 93, [1]), (sop [3, 0, 9] [.var 93, .var 93], .bool true, [])]
      [⟨8, 0, sop [1, 49] [.var 0, .var 1], []⟩, ⟨10, 1, sop [1, 49] [.var 96, .var 1], [0]⟩]
      (by kernel_rfl) (SlΦ.stable _) ?_ ?_ 93 96 rfl rfl 6 (.bool true) (by kernel_rfl) fun y t' φ hts h6 hkeep => ?_
    · exact allFR_cons (FactR.lenS Try.underlying23 fun φ => ⟨_, _, _, rfl, rfl⟩) (allFR_cons (FactR.lenS Try.underlying23 fun φ => ⟨_, _, _, rfl, rfl⟩) (allFR_cons (FactR.bin gtrN fun φ => BinQ.gtr hg)
        (allFR_cons (FactR.conv fun φ x _ => (HY.out x).1.str _ _ 5 Try.underlying9 Try.underlying23 Try.underlying5)
        (allFR_cons (FactR.conv fun φ x hd => (show Sl x.w 1 (φ.getD 1 Go.undef) a.length (bvs a) from hd 1 (by simp)).str _ _ 5 Try.underlying9 Try.underlying23 Try.underlying5)
        (allFR_cons (FactR.bin eqlN fun φ => BinQ.str (by simp)) allFR_nil)))))
    · refine allZ_cons (FreshR.call (IsFn.mk' Try.func49 (by kernel_rfl) rfl) fun φ x _ => ?_) (allZ_cons (FreshR.call (IsFn.mk' Try.func49 (by kernel_rfl) rfl) fun φ x hd => ?_) allZ_nil)
      · exact (xor_any _ _ a b x.w (HY.out x).1 (HY.out x).2 hfa hfb).mono fun e w' ⟨r, he, ho, hb⟩ => ⟨r, he, ofExt x hb, ho.sl⟩
      · have h0 : Sl x.w 1 (φ.getD 0 Go.undef) (xorB a b).length (bvs (xorB a b)) := hd 0 (by simp)
        refine (xor_any (φ.getD 0 Go.undef) _ (xorB a b) b x.w h0 (HY.out x).2 (hfa.le (by rw [xorB_len]; omega)) hfb).mono fun e w' ⟨r, he, ho, hb⟩ => ⟨r, he, ofExt x hb, ?_⟩
        have h1 := ho.sl
        rw [xorB_twice a b hab] at h1
        exact h1
    · have h6' : t'.getD 6 Go.undef = .bool true := h6
      clear h6 hkeep
      go_wp2
      go_ret
      exact ⟨by rw [h6'], B8.out.trans (y.below.mono B8.out.size)⟩
  · refine wp_region_rel [.string ⟨a.toArray⟩, .int .i64 (a.length : Int), .int .i64 (b.length : Int)] 0 (SlΦ [])
      [(sop [8, 23] [.var 0], .var 94, []), (sop [8, 23] [.var 1], .var 95, []), (sop [3, 4, 3] [.var 94, .var 95], .bool true, [])] []
      (by kernel_rfl) (SlΦ.stable _) ?_ allZ_nil 93 96 rfl rfl 6 (.bool true) (by kernel_rfl) fun y t' φ hts h6 hkeep => ?_
    · exact allFR_cons (FactR.lenS Try.underlying23 fun φ => ⟨_, _, _, rfl, rfl⟩) (allFR_cons (FactR.lenS Try.underlying23 fun φ => ⟨_, _, _, rfl, rfl⟩) (allFR_cons (FactR.bin gtrN fun φ => BinQ.gtr hg) allFR_nil))
    · have h6' : t'.getD 6 Go.undef = .bool true := h6
      clear h6 hkeep
      go_wp2
      go_ret
      exact ⟨by rw [h6'], B8.out.trans (y.below.mono B8.out.size)⟩
theorem walk (w : World) (x0 : Value) (a : List UInt8) (ha : Sl w 1 x0 a.length (bvs a)) (y0 : Value) (b : List UInt8) (hb : Sl w 1 y0 b.length (bvs b)) (v : Int) (hv : 0 ≤ v ∧ v < 18446744073709551616) :
    Calls Try.prog 13 #[x0, y0, .int .u64 v] w fun e w' => e = .returned (.bool true) ∧ Below w.heap.size w w' := by
  by_cases h : a.length ≤ 60 ∧ b.length ≤ 60
  · exact main x0 y0 a b v hv.1 hv.2 w ha hb h.1 h.2
  · obtain ⟨ua, uc, rfl⟩ := ha.form
    obtain ⟨va, vc, rfl⟩ := hb.form
    have h2 : 60 < a.length ∨ (a.length ≤ 60 ∧ 60 < b.length) := by omega
    clear ha hb h
    rcases h2 with h2 | ⟨h2, h3⟩
    · have h2i : (60 : Int) < (a.length : Int) := by omega
      go_enter Try.func13, Try.ntmps13
      go_wp2_with (go_at_call 46; refine (awake1_any _).mono ?_; rintro e w1 ⟨rfl, hb1⟩)
      go_ret
      exact ⟨rfl, hb1⟩
    · have h2i : (a.length : Int) ≤ 60 := by omega
      have h3i : (60 : Int) < (b.length : Int) := by omega
      go_enter Try.func13, Try.ntmps13
      go_wp2_with (go_at_call 46; refine (awake1_any _).mono ?_; rintro e w1 ⟨rfl, hb1⟩)
      go_ret
      exact ⟨rfl, hb1⟩
end Go.Proofs.Ytlmegcbiijkmaaa.octetBack
