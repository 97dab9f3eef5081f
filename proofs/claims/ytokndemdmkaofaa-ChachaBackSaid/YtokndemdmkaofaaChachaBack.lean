/- ChachaBack: the walk. No condition. -/
import Derived.Test.YtokndemdmkaofaaCha7
namespace Go.Proofs.Ytokndemdmkaofaa.chachaBack
open Go.RowKit Go.Bx
set_option maxHeartbeats 2000000 in
theorem guards (key : List UInt8) (count : Int) (hc : 0 ≤ count ∧ count < 4294967296) (nonce : List UInt8) (va : Option Addr) (n vc : Nat) (cut : Int) (hcut : I64 cut) (w : World)
    (hg : 300 < n ∨ 4294967276 < count ∨ cut < 0 ∨ (n : Int) / 64 < cut) :
    Calls Try.prog 6 #[.agg (bvs key).toArray, .int .u32 count, .agg (bvs nonce).toArray, .slice va n vc, .int .i64 cut] w fun e w' => e = .returned (.bool true) ∧ Below w.heap.size w w' := by
  have htd : (n : Int).tdiv 64 = n / 64 := Int.tdiv_eq_ediv_of_nonneg (by omega)
  obtain ⟨m, hm⟩ : ∃ m : Int, m = (n : Int) := ⟨_, rfl⟩
  have hor : (300 < (n : Int)) ∨ (¬ 300 < (n : Int) ∧ 4294967276 < count) ∨ (¬ 300 < (n : Int) ∧ ¬ 4294967276 < count ∧ cut < 0) ∨ (¬ 300 < (n : Int) ∧ ¬ 4294967276 < count ∧ ¬ cut < 0 ∧ (n : Int) / 64 < cut) := by omega
  clear hg hm
  have HC := Held.mk hcut
  clear hcut
  rcases hor with h | ⟨h1, h2⟩ | ⟨h1, h2, h3⟩ | ⟨h1, h2, h3, h4⟩
  all_goals
    go_enter Try.func6, Try.ntmps6
    go_wp2_with (go_at_call 13; refine (awake4_any _).mono ?_; rintro e w1 ⟨rfl, hb1⟩; have B1 := Held.mk ((((Below.refl _ _).alloc (Nat.le_refl _) _).alloc (by simp) _).trans (hb1.mono (by simp; omega))); clear hb1)
    go_ret
    exact ⟨rfl, B1.out⟩
set_option maxHeartbeats 4000000 in
theorem main (key : List UInt8) (hk : key.length = 32) (count : Nat) (hc : count ≤ 4294967276) (nonce : List UInt8) (hn : nonce.length = 12) (va : Value) (b : List UInt8) (hb : b.length ≤ 300) (c : Nat) (hcut : c ≤ b.length / 64) (w : World) (hv : Sl w 1 va b.length (bvs b)) :
    Calls Try.prog 6 #[.agg (bvs key).toArray, .int .u32 (count : Int), .agg (bvs nonce).toArray, va, .int .i64 (c : Int)] w fun e w' => e = .returned (.bool true) ∧ Below w.heap.size w w' := by
  obtain ⟨i0, hi, _, hi1, _⟩ := info_parts infoB
  obtain ⟨ua, uc, rfl⟩ := hv.form
  obtain ⟨X, hX⟩ : ∃ X, X = xorS key count nonce b := ⟨_, rfl⟩
  obtain ⟨Pp, hP⟩ : ∃ P, P = xorS key count nonce (b.take (64 * c)) := ⟨_, rfl⟩
  obtain ⟨Qq, hQ⟩ : ∃ Q, Q = xorS key (count + c) nonce (b.drop (64 * c)) := ⟨_, rfl⟩
  have hXl : X.length = b.length := by rw [hX]; exact xorS_len _ _ _ _
  have c1 : ∀ v W, Sl W 1 v b.length (bvs b) → Calls Try.prog 15 #[.agg (bvs key).toArray, .int .u32 (count : Int), .agg (bvs nonce).toArray, v] W fun e w' => ∃ r, e = .returned (.tuple #[r, .int .i64 0]) ∧ Own w' W.heap.size 1 r b.length (bvs X) ∧ Below W.heap.size W w' := fun v W h => by
    rw [hX]; exact xor4_ok key nonce hk hn count v b W h ⟨by omega⟩ (by omega)
  have c2 : ∀ v W, Sl W 1 v b.length (bvs X) → Calls Try.prog 15 #[.agg (bvs key).toArray, .int .u32 (count : Int), .agg (bvs nonce).toArray, v] W fun e w' => ∃ r, e = .returned (.tuple #[r, .int .i64 0]) ∧ Own w' W.heap.size 1 r b.length (bvs b) ∧ Below W.heap.size W w' := fun v W h => by
    have := xor4_ok key nonce hk hn count v X W (by rw [hXl]; exact h) ⟨by omega⟩ (by rw [hXl]; omega)
    rw [hXl, hX, xorS_twice] at this
    exact this
  have hcb : 64 * c ≤ b.length := by omega
  have tl : (b.take (64 * c)).length = 64 * c := by rw [List.length_take]; omega
  have dl : (b.drop (64 * c)).length = b.length - 64 * c := by rw [List.length_drop]
  have c3 : ∀ v W, Sl W 1 v (64 * c) (bvs (b.take (64 * c))) → Calls Try.prog 15 #[.agg (bvs key).toArray, .int .u32 (count : Int), .agg (bvs nonce).toArray, v] W fun e w' => ∃ r, e = .returned (.tuple #[r, .int .i64 0]) ∧ Own w' W.heap.size 1 r (64 * c) (bvs Pp) ∧ Below W.heap.size W w' := fun v W h => by
    have := xor4_ok key nonce hk hn count v (b.take (64 * c)) W (by rw [tl]; exact h) ⟨by omega⟩ (by rw [tl]; omega)
    rw [hP]; rw [tl] at this; exact this
  have c4 : ∀ v W, Sl W 1 v (b.length - 64 * c) (bvs (b.drop (64 * c))) → Calls Try.prog 15 #[.agg (bvs key).toArray, .int .u32 ((count : Int) + (c : Int)), .agg (bvs nonce).toArray, v] W fun e w' => ∃ r, e = .returned (.tuple #[r, .int .i64 0]) ∧ Own w' W.heap.size 1 r (b.length - 64 * c) (bvs Qq) ∧ Below W.heap.size W w' := fun v W h => by
    have := xor4_ok key nonce hk hn (count + c) v (b.drop (64 * c)) W (by rw [dl]; exact h) ⟨by omega⟩ (by rw [dl]; omega)
    rw [hQ]; rw [dl] at this; exact this
  have hcat : (⟨Pp.toArray⟩ : ByteArray) ++ ⟨Qq.toArray⟩ = ⟨X.toArray⟩ := by
    rw [hP, hQ, hX, xorS_cut key count nonce b c hcb]
    apply ByteArray.ext
    simp
  have hPl : Pp.length = 64 * c := by rw [hP, xorS_len, tl]
  have hQl : Qq.length = b.length - 64 * c := by rw [hQ, xorS_len, dl]
  have H1 := Held.mk c1
  have H2 := Held.mk c2
  have H3 := Held.mk c3
  have H4 := Held.mk c4
  have HCat := Held.mk hcat
  have HI32 : Held ((Try.prog.info? 33).map (·.size) = some (bvs key).length) := ⟨by rw [bvs_length, hk]; kernel_rfl⟩
  have HI12 : Held ((Try.prog.info? 34).map (·.size) = some (bvs nonce).length) := ⟨by rw [bvs_length, hn]; kernel_rfl⟩
  have HV := Held.mk hv
  have HL := Held.mk (And.intro hXl (And.intro hPl (And.intro hQl (And.intro hcb hb))))
  obtain ⟨ci, hci⟩ : ∃ ci : Int, ci = (count : Int) := ⟨_, rfl⟩
  obtain ⟨k, hkk⟩ : ∃ k : Int, k = (c : Int) := ⟨_, rfl⟩
  rw [← hci] at H1 H2 H3 H4 ⊢
  rw [← hkk] at H4 ⊢
  obtain ⟨n, hnn⟩ : ∃ n, n = b.length := ⟨_, rfl⟩
  have g0 : ¬ (300 < (b.length : Int)) := by omega
  have g1 : ¬ (4294967276 < ci) := by omega
  have g2 : ¬ (k < 0) := by omega
  have htd : (b.length : Int).tdiv 64 = b.length / 64 := Int.tdiv_eq_ediv_of_nonneg (by omega)
  have g3 : ¬ ((b.length : Int) / 64 < k) := by omega
  have g4 : 0 ≤ 64 * k ∧ 64 * k ≤ b.length := by omega
  have g5 : k ≤ 10 := by omega
  have g6 : 0 ≤ ci := by omega
  have m1 : IntKind.i64.wrap (64 * k) = 64 * k := IntWalk.i64_in _ (by omega)
  have m2 : IntKind.u32.wrap k = k := by simp [IntKind.wrap, IntKind.bits, IntKind.signed]; omega
  have m3 : IntKind.u32.wrap (ci + k) = ci + k := by simp [IntKind.wrap, IntKind.bits, IntKind.signed]; omega
  obtain ⟨pa, pc, hcp, hcpS, _⟩ := ex_cut_h Try.underlying28 hi hv .i64 (64 * k) g4.1 g4.2
  obtain ⟨qa, qc, hcq, hcqS, _, _⟩ := ex_cut_l Try.underlying28 hi hv hi1 .i64 (64 * k) g4.1 g4.2
  have e64 : (64 * k).toNat = 64 * c := by omega
  rw [e64] at hcp hcpS hcq hcqS
  rw [bvs_take] at hcpS
  rw [bvs_drop] at hcqS
  have HCS := Held.mk (And.intro hcpS hcqS)
  clear hX hP hQ hXl c1 c2 c3 c4 hcat hPl hQl hv hk hn hc hb hcut hcb tl dl hci hkk hnn hi hi1 hcpS hcqS e64
  go_enter Try.func6, Try.ntmps6
  go_wp2_with (first
    | (go_at_call 13; refine (awake4_any _).mono ?_; rintro e w1 ⟨rfl, hb1⟩; obtain ⟨A1, A2⟩ := laid2' hb1; have BX := Held.mk (Bxs.mk A1.out A2.out (HV.out.grow ((((Below.refl _ _).alloc (Nat.le_refl _) _).alloc (by simp) _).trans (hb1.mono (by simp; omega)))) (by have := hb1.size; simp at this; omega) ((((Below.refl _ _).alloc (Nat.le_refl _) _).alloc (by simp) _).trans (hb1.mono (by simp; omega)))); clear hb1 A1 A2)
    | (refine wpList_loadB rfl rfl BX.out.k rfl Try.underlying33 rfl HI32.out ?_)
    | (refine wpList_loadB rfl rfl BX.out.n rfl Try.underlying34 rfl HI12.out ?_)
    | (go_at_call 15; refine (H1.out _ _ BX.out.s).mono ?_; rintro e w2 ⟨r2, rfl, ho2, hb2⟩; have BX2 := Held.mk (BX.out.step hb2); have S2 := Held.mk ho2.sl; clear BX ho2 hb2 H1; have BX := BX2; clear BX2)
    | (go_at_call 15; refine (H2.out _ _ S2.out).mono ?_; rintro e w3 ⟨r3, rfl, ho3, hb3⟩; have BX2 := Held.mk (BX.out.step hb3); have S3 := Held.mk (And.intro (S2.out.grow hb3) ho3.sl); clear BX ho3 hb3 H2 S2; have BX := BX2; clear BX2))
  have hsa : Try.prog.underlying 28 = some (.slice (Try.prog.elem 28)) := by kernel_rfl
  have hfb : ∀ x : ExtS (fun _ => False) w3, Below w3.heap.size w3 x.w := fun x => x.fr.below (Nat.le_refl _) (fun _ _ h => h)
  refine wp_region_t (fun _ => False) (fun _ _ => True) [.agg (bvs key).toArray, .agg (bvs nonce).toArray, .int .i64 (64 * k), .slice pa (64 * c) pc, .int .i64 0] 2 (TupΦ (64 * c) Pp)
    [⟨sop [0, 33] [.var 5], .var 111, [], none⟩, ⟨sop [0, 34] [.var 7], .var 112, [], none⟩, ⟨sop [3, 8, 3] [.int .i64 64, .var 4], .var 113, [], none⟩, ⟨sop [14, 28] [.var 3, .var 113], .var 114, [], none⟩, ⟨sop [11, 1] [.var 116], .var 115, [0], none⟩]
    [⟨7, 0, sop [1, 15] [.var 111, .var 1, .var 112, .var 114], []⟩, ⟨9, 1, sop [11, 0] [.var 116], [0]⟩] []
    (by kernel_rfl) (TupΦ.stable _ _) (fun _ _ _ _ h => h) trivial ?_ ?_ 111 116 rfl rfl [(15, .var 117), (16, .var 115)] (by kernel_rfl) fun x4 t φ hts ho hkeep hΦ _ => ?_
  · refine allFT_cons (FactT.of fun x => FactR.load fun φ => LoadQ.of Try.underlying33 rfl HI32.out ?_) (allFT_cons (FactT.of fun x => FactR.load fun φ => LoadQ.of Try.underlying34 rfl HI12.out ?_)
      (allFT_cons (FactT.of fun x => FactR.bin mulN fun φ => BinQ.mul m1) (allFT_cons (FactT.of fun x => FactR.cutH fun φ z _ => (run_sliceAt_slice _ _ _ _ _ _ hsa).trans (hcp _))
      (allFT_cons (FactT.of fun x => FactR.extr fun φ z hd => (show TupΦ _ _ 0 (φ.getD 0 Go.undef) z.w from hd 0 (by simp)).snd z.w) allFT_nil))))
    · exact x.fr.range id (by have := rangeAt_of BX.out.k; simpa using this)
    · exact x.fr.range id (by have := rangeAt_of BX.out.n; simpa using this)
  · refine allZS_cons (j := none) (by kernel_rfl) (FreshS.of fun x => FreshR.call (IsFn.mk' Try.func15 (by kernel_rfl) rfl) fun φ z _ => ?_) (allZS_cons (j := none) (by kernel_rfl) (FreshS.extr fun φ z hd => (show TupΦ _ _ 0 (φ.getD 0 Go.undef) z.w from hd 0 (by simp)).fst z.w) allZS_nil)
    exact (H3.out _ _ (HCS.out.1 _ ((BX.out.step (hfb x)).s.grow z.below))).mono fun e w' ⟨r, he, ho, hb⟩ => ⟨_, he, Fr.ofBelow hb _, r, rfl, ho.sl⟩
  have q15 : t.getD 15 Go.undef = φ.getD 1 Go.undef := ho (15, .var 117) (by simp)
  have q16 : t.getD 16 Go.undef = .int .i64 0 := ho (16, .var 115) (by simp)
  have S4 : Held (Sl x4.w 1 (φ.getD 1 Go.undef) (64 * c) (bvs Pp)) := ⟨hΦ (15, .var 117) (by simp) 1 rfl⟩
  have q1 : t.getD 1 Go.undef = .int .u32 ci := by rw [Array.getD_eq_getD_getElem?, hkeep 1 (by kernel_rfl)]; rfl
  have q3 : t.getD 3 Go.undef = .slice ua b.length uc := by rw [Array.getD_eq_getD_getElem?, hkeep 3 (by kernel_rfl)]; rfl
  have q4 : t.getD 4 Go.undef = .int .i64 k := by rw [Array.getD_eq_getD_getElem?, hkeep 4 (by kernel_rfl)]; rfl
  have q5 : t.getD 5 Go.undef = .pointer (some ⟨w.heap.size, 0, none⟩) := by rw [Array.getD_eq_getD_getElem?, hkeep 5 (by kernel_rfl)]; rfl
  have q7 : t.getD 7 Go.undef = .pointer (some ⟨w.heap.size + 1, 0, none⟩) := by rw [Array.getD_eq_getD_getElem?, hkeep 7 (by kernel_rfl)]; rfl
  have q11 : t.getD 11 Go.undef = r2 := by rw [Array.getD_eq_getD_getElem?, hkeep 11 (by kernel_rfl)]; rfl
  have q12 : t.getD 12 Go.undef = .int .i64 0 := by rw [Array.getD_eq_getD_getElem?, hkeep 12 (by kernel_rfl)]; rfl
  have q13 : t.getD 13 Go.undef = r3 := by rw [Array.getD_eq_getD_getElem?, hkeep 13 (by kernel_rfl)]; rfl
  have q14 : t.getD 14 Go.undef = .int .i64 0 := by rw [Array.getD_eq_getD_getElem?, hkeep 14 (by kernel_rfl)]; rfl
  have et := frame_lit t 111 hts [t.getD 0 Go.undef, t.getD 1 Go.undef, t.getD 2 Go.undef, t.getD 3 Go.undef, t.getD 4 Go.undef, t.getD 5 Go.undef, t.getD 6 Go.undef, t.getD 7 Go.undef, t.getD 8 Go.undef, t.getD 9 Go.undef, t.getD 10 Go.undef, t.getD 11 Go.undef, t.getD 12 Go.undef, t.getD 13 Go.undef, t.getD 14 Go.undef, t.getD 15 Go.undef, t.getD 16 Go.undef, t.getD 17 Go.undef, t.getD 18 Go.undef, t.getD 19 Go.undef, t.getD 20 Go.undef, t.getD 21 Go.undef, t.getD 22 Go.undef, t.getD 23 Go.undef, t.getD 24 Go.undef, t.getD 25 Go.undef, t.getD 26 Go.undef, t.getD 27 Go.undef, t.getD 28 Go.undef, t.getD 29 Go.undef, t.getD 30 Go.undef, t.getD 31 Go.undef, t.getD 32 Go.undef, t.getD 33 Go.undef, t.getD 34 Go.undef, t.getD 35 Go.undef, t.getD 36 Go.undef, t.getD 37 Go.undef, t.getD 38 Go.undef, t.getD 39 Go.undef, t.getD 40 Go.undef, t.getD 41 Go.undef, t.getD 42 Go.undef, t.getD 43 Go.undef, t.getD 44 Go.undef, t.getD 45 Go.undef, t.getD 46 Go.undef, t.getD 47 Go.undef, t.getD 48 Go.undef, t.getD 49 Go.undef, t.getD 50 Go.undef, t.getD 51 Go.undef, t.getD 52 Go.undef, t.getD 53 Go.undef, t.getD 54 Go.undef, t.getD 55 Go.undef, t.getD 56 Go.undef, t.getD 57 Go.undef, t.getD 58 Go.undef, t.getD 59 Go.undef, t.getD 60 Go.undef, t.getD 61 Go.undef, t.getD 62 Go.undef, t.getD 63 Go.undef, t.getD 64 Go.undef, t.getD 65 Go.undef, t.getD 66 Go.undef, t.getD 67 Go.undef, t.getD 68 Go.undef, t.getD 69 Go.undef, t.getD 70 Go.undef, t.getD 71 Go.undef, t.getD 72 Go.undef, t.getD 73 Go.undef, t.getD 74 Go.undef, t.getD 75 Go.undef, t.getD 76 Go.undef, t.getD 77 Go.undef, t.getD 78 Go.undef, t.getD 79 Go.undef, t.getD 80 Go.undef, t.getD 81 Go.undef, t.getD 82 Go.undef, t.getD 83 Go.undef, t.getD 84 Go.undef, t.getD 85 Go.undef, t.getD 86 Go.undef, t.getD 87 Go.undef, t.getD 88 Go.undef, t.getD 89 Go.undef, t.getD 90 Go.undef, t.getD 91 Go.undef, t.getD 92 Go.undef, t.getD 93 Go.undef, t.getD 94 Go.undef, t.getD 95 Go.undef, t.getD 96 Go.undef, t.getD 97 Go.undef, t.getD 98 Go.undef, t.getD 99 Go.undef, t.getD 100 Go.undef, t.getD 101 Go.undef, t.getD 102 Go.undef, t.getD 103 Go.undef, t.getD 104 Go.undef, t.getD 105 Go.undef, t.getD 106 Go.undef, t.getD 107 Go.undef, t.getD 108 Go.undef, t.getD 109 Go.undef, t.getD 110 Go.undef] (by kernel_rfl)
  rw [q1, q3, q4, q5, q7, q11, q12, q13, q14, q15, q16] at et
  rw [et]
  have BX4 := Held.mk (BX.out.step (hfb x4))
  have S34 := Held.mk (And.intro (S3.out.1.grow (hfb x4)) (S3.out.2.grow (hfb x4)))
  obtain ⟨r4, hr4⟩ : ∃ r4, r4 = φ.getD 1 Go.undef := ⟨_, rfl⟩
  rw [← hr4] at S4 ⊢
  clear hr4 q1 q3 q4 q5 q7 q11 q12 q13 q14 q15 q16 et hkeep ho hΦ hfb BX S3
  go_wp2_with fail
  have hfb : ∀ x : ExtS (fun _ => False) x4.w, Below x4.w.heap.size x4.w x.w := fun x => x.fr.below (Nat.le_refl _) (fun _ _ h => h)
  refine wp_region_t (fun _ => False) (fun _ _ => True) [.agg (bvs key).toArray, .int .u32 k, .int .u32 (ci + k), .agg (bvs nonce).toArray, .int .i64 (64 * k), .slice qa (b.length - 64 * c) qc, .int .i64 0] 2 (TupΦ (b.length - 64 * c) Qq)
    [⟨sop [0, 33] [.var 5], .var 111, [], none⟩, ⟨sop [7, 3, 22] [.var 4], .var 112, [], none⟩, ⟨sop [3, 6, 22] [.var 1, .var 112], .var 113, [], none⟩, ⟨sop [0, 34] [.var 7], .var 114, [], none⟩, ⟨sop [3, 8, 3] [.int .i64 64, .var 4], .var 115, [], none⟩, ⟨sop [13, 28] [.var 3, .var 115], .var 116, [], none⟩, ⟨sop [11, 1] [.var 118], .var 117, [0], none⟩]
    [⟨10, 0, sop [1, 15] [.var 111, .var 113, .var 114, .var 116], []⟩, ⟨12, 1, sop [11, 0] [.var 118], [0]⟩] []
    (by kernel_rfl) (TupΦ.stable _ _) (fun _ _ _ _ h => h) trivial ?_ ?_ 111 118 rfl rfl [(17, .var 119), (18, .var 117)] (by kernel_rfl) fun x5 t φ hts ho hkeep hΦ _ => ?_
  · refine allFT_cons (FactT.of fun x => FactR.load fun φ => LoadQ.of Try.underlying33 rfl HI32.out ?_) (allFT_cons (FactT.of fun x => FactR.conv fun φ z _ => ?_) (allFT_cons (FactT.of fun x => FactR.bin addN fun φ => BinQ.addk m3) (allFT_cons (FactT.of fun x => FactR.load fun φ => LoadQ.of Try.underlying34 rfl HI12.out ?_)
      (allFT_cons (FactT.of fun x => FactR.bin mulN fun φ => BinQ.mul m1) (allFT_cons (FactT.of fun x => FactR.cutL fun φ z _ => (run_sliceAt_slice _ _ _ _ _ _ hsa).trans (hcq _))
      (allFT_cons (FactT.of fun x => FactR.extr fun φ z hd => (show TupΦ _ _ 0 (φ.getD 0 Go.undef) z.w from hd 0 (by simp)).snd z.w) allFT_nil))))))
    · exact x.fr.range id (by have := rangeAt_of BX4.out.k; simpa using this)
    · show (convert 3 22 (.int .i64 k)).run Try.prog z.w = .ok (.int .u32 k) z.w
      simp [go_sem, m2]
    · exact x.fr.range id (by have := rangeAt_of BX4.out.n; simpa using this)
  · refine allZS_cons (j := none) (by kernel_rfl) (FreshS.of fun x => FreshR.call (IsFn.mk' Try.func15 (by kernel_rfl) rfl) fun φ z _ => ?_) (allZS_cons (j := none) (by kernel_rfl) (FreshS.extr fun φ z hd => (show TupΦ _ _ 0 (φ.getD 0 Go.undef) z.w from hd 0 (by simp)).fst z.w) allZS_nil)
    exact (H4.out _ _ (HCS.out.2 _ ((BX4.out.step (hfb x)).s.grow z.below))).mono fun e w' ⟨r, he, ho, hb⟩ => ⟨_, he, Fr.ofBelow hb _, r, rfl, ho.sl⟩
  have q17 : t.getD 17 Go.undef = φ.getD 1 Go.undef := ho (17, .var 119) (by simp)
  have q18 : t.getD 18 Go.undef = .int .i64 0 := ho (18, .var 117) (by simp)
  have S5 : Held (Sl x5.w 1 (φ.getD 1 Go.undef) (b.length - 64 * c) (bvs Qq)) := ⟨hΦ (17, .var 119) (by simp) 1 rfl⟩
  have q3 : t.getD 3 Go.undef = .slice ua b.length uc := by rw [Array.getD_eq_getD_getElem?, hkeep 3 (by kernel_rfl)]; rfl
  have q11 : t.getD 11 Go.undef = r2 := by rw [Array.getD_eq_getD_getElem?, hkeep 11 (by kernel_rfl)]; rfl
  have q12 : t.getD 12 Go.undef = .int .i64 0 := by rw [Array.getD_eq_getD_getElem?, hkeep 12 (by kernel_rfl)]; rfl
  have q13 : t.getD 13 Go.undef = r3 := by rw [Array.getD_eq_getD_getElem?, hkeep 13 (by kernel_rfl)]; rfl
  have q14 : t.getD 14 Go.undef = .int .i64 0 := by rw [Array.getD_eq_getD_getElem?, hkeep 14 (by kernel_rfl)]; rfl
  have q15 : t.getD 15 Go.undef = r4 := by rw [Array.getD_eq_getD_getElem?, hkeep 15 (by kernel_rfl)]; rfl
  have q16 : t.getD 16 Go.undef = .int .i64 0 := by rw [Array.getD_eq_getD_getElem?, hkeep 16 (by kernel_rfl)]; rfl
  have et := frame_lit t 111 hts [t.getD 0 Go.undef, t.getD 1 Go.undef, t.getD 2 Go.undef, t.getD 3 Go.undef, t.getD 4 Go.undef, t.getD 5 Go.undef, t.getD 6 Go.undef, t.getD 7 Go.undef, t.getD 8 Go.undef, t.getD 9 Go.undef, t.getD 10 Go.undef, t.getD 11 Go.undef, t.getD 12 Go.undef, t.getD 13 Go.undef, t.getD 14 Go.undef, t.getD 15 Go.undef, t.getD 16 Go.undef, t.getD 17 Go.undef, t.getD 18 Go.undef, t.getD 19 Go.undef, t.getD 20 Go.undef, t.getD 21 Go.undef, t.getD 22 Go.undef, t.getD 23 Go.undef, t.getD 24 Go.undef, t.getD 25 Go.undef, t.getD 26 Go.undef, t.getD 27 Go.undef, t.getD 28 Go.undef, t.getD 29 Go.undef, t.getD 30 Go.undef, t.getD 31 Go.undef, t.getD 32 Go.undef, t.getD 33 Go.undef, t.getD 34 Go.undef, t.getD 35 Go.undef, t.getD 36 Go.undef, t.getD 37 Go.undef, t.getD 38 Go.undef, t.getD 39 Go.undef, t.getD 40 Go.undef, t.getD 41 Go.undef, t.getD 42 Go.undef, t.getD 43 Go.undef, t.getD 44 Go.undef, t.getD 45 Go.undef, t.getD 46 Go.undef, t.getD 47 Go.undef, t.getD 48 Go.undef, t.getD 49 Go.undef, t.getD 50 Go.undef, t.getD 51 Go.undef, t.getD 52 Go.undef, t.getD 53 Go.undef, t.getD 54 Go.undef, t.getD 55 Go.undef, t.getD 56 Go.undef, t.getD 57 Go.undef, t.getD 58 Go.undef, t.getD 59 Go.undef, t.getD 60 Go.undef, t.getD 61 Go.undef, t.getD 62 Go.undef, t.getD 63 Go.undef, t.getD 64 Go.undef, t.getD 65 Go.undef, t.getD 66 Go.undef, t.getD 67 Go.undef, t.getD 68 Go.undef, t.getD 69 Go.undef, t.getD 70 Go.undef, t.getD 71 Go.undef, t.getD 72 Go.undef, t.getD 73 Go.undef, t.getD 74 Go.undef, t.getD 75 Go.undef, t.getD 76 Go.undef, t.getD 77 Go.undef, t.getD 78 Go.undef, t.getD 79 Go.undef, t.getD 80 Go.undef, t.getD 81 Go.undef, t.getD 82 Go.undef, t.getD 83 Go.undef, t.getD 84 Go.undef, t.getD 85 Go.undef, t.getD 86 Go.undef, t.getD 87 Go.undef, t.getD 88 Go.undef, t.getD 89 Go.undef, t.getD 90 Go.undef, t.getD 91 Go.undef, t.getD 92 Go.undef, t.getD 93 Go.undef, t.getD 94 Go.undef, t.getD 95 Go.undef, t.getD 96 Go.undef, t.getD 97 Go.undef, t.getD 98 Go.undef, t.getD 99 Go.undef, t.getD 100 Go.undef, t.getD 101 Go.undef, t.getD 102 Go.undef, t.getD 103 Go.undef, t.getD 104 Go.undef, t.getD 105 Go.undef, t.getD 106 Go.undef, t.getD 107 Go.undef, t.getD 108 Go.undef, t.getD 109 Go.undef, t.getD 110 Go.undef] (by kernel_rfl)
  rw [q3, q11, q12, q13, q14, q15, q16, q17, q18] at et
  rw [et]
  have BX5 := Held.mk (BX4.out.step (hfb x5))
  have S5b := Held.mk (And.intro (S34.out.1.grow (hfb x5)) (And.intro (S34.out.2.grow (hfb x5)) (S4.out.grow (hfb x5))))
  obtain ⟨r5, hr5⟩ : ∃ r5, r5 = φ.getD 1 Go.undef := ⟨_, rfl⟩
  rw [← hr5] at S5 ⊢
  have t1 := S5b.out.2.1.str (P := Try.prog) 28 9 5 Try.underlying9 Try.underlying28 Try.underlying5
  have t2 := BX5.out.s.str (P := Try.prog) 28 9 5 Try.underlying9 Try.underlying28 Try.underlying5
  have t3 := S5b.out.1.str (P := Try.prog) 28 9 5 Try.underlying9 Try.underlying28 Try.underlying5
  have t4 := S5b.out.2.2.str (P := Try.prog) 28 9 5 Try.underlying9 Try.underlying28 Try.underlying5
  have t5 := S5.out.str (P := Try.prog) 28 9 5 Try.underlying9 Try.underlying28 Try.underlying5
  have hcat := HCat.out
  clear hr5 q3 q11 q12 q13 q14 q15 q16 q17 q18 et hkeep ho hΦ hfb BX4 S34
  obtain ⟨sb, hsb⟩ : ∃ s : ByteArray, s = ⟨b.toArray⟩ := ⟨_, rfl⟩
  obtain ⟨sx, hsx⟩ : ∃ s : ByteArray, s = ⟨X.toArray⟩ := ⟨_, rfl⟩
  obtain ⟨sp, hsp⟩ : ∃ s : ByteArray, s = ⟨Pp.toArray⟩ := ⟨_, rfl⟩
  obtain ⟨sq, hsq⟩ : ∃ s : ByteArray, s = ⟨Qq.toArray⟩ := ⟨_, rfl⟩
  rw [← hsb] at t1 t2
  rw [← hsx] at t3 hcat
  rw [← hsp] at t4 hcat
  rw [← hsq] at t5 hcat
  have z1 : sp.size ≤ 300 := by rw [hsp]; show Pp.toArray.size ≤ 300; have := HL.out.2.1; have := HL.out.2.2.2; rw [List.size_toArray]; omega
  have z2 : sq.size ≤ 300 := by rw [hsq]; show Qq.toArray.size ≤ 300; have := HL.out.2.2.1; have := HL.out.2.2.2; rw [List.size_toArray]; omega
  clear hsb hsx hsp hsq
  go_wp2
  go_ret
  exact ⟨rfl, BX5.out.below⟩
theorem walk (W : World) (key : List UInt8) (hk : key.length = 32) (count : Int) (hc : 0 ≤ count ∧ count < 4294967296) (nonce : List UInt8) (hn : nonce.length = 12) (va : Value) (b : List UInt8) (hv : Sl W 1 va b.length (bvs b)) (cut : Int) (hcut : I64 cut) :
    Calls Try.prog 6 #[.agg (bvs key).toArray, .int .u32 count, .agg (bvs nonce).toArray, va, .int .i64 cut] W fun e w' => e = .returned (.bool true) ∧ Below W.heap.size W w' := by
  by_cases h : b.length ≤ 300 ∧ count ≤ 4294967276 ∧ 0 ≤ cut ∧ cut ≤ (b.length : Int) / 64
  · obtain ⟨c, rfl⟩ : ∃ c : Nat, count = c := ⟨count.toNat, by omega⟩
    obtain ⟨k, rfl⟩ : ∃ k : Nat, cut = k := ⟨cut.toNat, by omega⟩
    exact main key hk c (by omega) nonce hn va b h.1 k (by omega) W hv
  · obtain ⟨ua, uc, rfl⟩ := hv.form
    exact guards key count hc nonce ua b.length uc cut hcut W (by omega)
end Go.Proofs.Ytokndemdmkaofaa.chachaBack
