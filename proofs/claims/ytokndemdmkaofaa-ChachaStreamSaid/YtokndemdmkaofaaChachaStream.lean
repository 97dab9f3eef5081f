/- ChachaStream: the walk. No condition. -/
import Derived.Test.YtokndemdmkaofaaCha7
namespace Go.Bx
open Go Go.RowKit
/-- What a region makes: bytes (0), a tuple of bytes and nought (1). -/
def TΦ (ks : List (Nat × List UInt8)) (k : Nat) (v : Value) (w : World) : Prop := match ks[k]? with
  | some (0, l) => Sl w 1 v l.length (bvs l)
  | some (1, l) => ∃ r, v = .tuple #[r, .int .i64 0] ∧ Sl w 1 r l.length (bvs l)
  | _ => True
theorem TΦ.stable (ks : List (Nat × List UInt8)) (k : Nat) (v : Value) (w w' : World) (hf : Fr (fun _ => False) w w') (h : TΦ ks k v w) : TΦ ks k v w' := by
  unfold TΦ at *
  split
  · rename_i l e; rw [e] at h; exact Sl.fr h hf (fun _ _ _ _ => id)
  · rename_i l e; rw [e] at h; obtain ⟨r, e, h⟩ := h; exact ⟨r, e, h.fr hf (fun _ _ _ _ => id)⟩
  · trivial
theorem xorB_zero : ∀ (m : Nat) (S : List UInt8), S.length = m → xorB (List.replicate m 0) S = S
  | 0, S, h => by obtain rfl := List.eq_nil_of_length_eq_zero h; rfl
  | m + 1, [], h => by simp at h
  | m + 1, y :: S, h => by
    have ih := xorB_zero m S (by simpa using h)
    unfold xorB at *
    simp only [List.replicate_succ, List.zipWith_cons_cons, ih]
    congr 1
    exact UInt8.zero_xor
theorem streamL_one (key : List UInt8) (count : Nat) (nonce : List UInt8) : streamL key count nonce 1 = blockL key count nonce := by
  show [] ++ blockL key (count + 0) nonce = _
  rw [List.nil_append, Nat.add_zero]
theorem mid_of {α : Type} (A B C : List α) (a b : Nat) (ha : A.length = a) (hb : B.length = b) : ((A ++ (B ++ C)).drop a).take b = B := by
  subst ha hb; simp
theorem streamL_at (key : List UInt8) (count : Nat) (nonce : List UInt8) (n i : Nat) (h : i < n) : ((streamL key count nonce n).drop (64 * i)).take 64 = blockL key (count + i) nonce := by
  obtain ⟨m, rfl⟩ : ∃ m, n = i + (1 + m) := ⟨n - i - 1, by omega⟩
  rw [streamL_add, streamL_add, streamL_one]
  exact mid_of _ _ _ _ _ (streamL_len _ _ _ _) (blockL_len _ _ _)
end Go.Bx
namespace Go.Proofs.Ytokndemdmkaofaa.chachaStream
open Go.RowKit Go.Bx
set_option maxHeartbeats 2000000 in
theorem guards (key : List UInt8) (count : Int) (hc : 0 ≤ count ∧ count < 4294967296) (nonce : List UInt8) (n : Int) (hcut : I64 n) (w : World) (hg : 4 < n ∨ 4294967286 < count ∨ n < 0) :
    Calls Try.prog 7 #[.agg (bvs key).toArray, .int .u32 count, .agg (bvs nonce).toArray, .int .i64 n] w fun e w' => e = .returned (.bool true) ∧ Below w.heap.size w w' := by
  have hor : n < 0 ∨ (¬ n < 0 ∧ 4 < n) ∨ (¬ n < 0 ∧ ¬ 4 < n ∧ 4294967286 < count) := by omega
  have HC := Held.mk hcut
  clear hcut hg
  rcases hor with h | ⟨h1, h2⟩ | ⟨h1, h2, h3⟩
  all_goals
    go_enter Try.func7, Try.ntmps7
    go_wp2_with (go_at_call 13; refine (awake4_any _).mono ?_; rintro e w1 ⟨rfl, hb1⟩; have B1 := Held.mk ((((Below.refl _ _).alloc (Nat.le_refl _) _).alloc (by simp) _).trans (hb1.mono (by simp; omega))); clear hb1)
    go_ret
    exact ⟨rfl, B1.out⟩
set_option maxHeartbeats 4000000 in
theorem main (key : List UInt8) (hk : key.length = 32) (count : Nat) (hc : count ≤ 4294967286) (nonce : List UInt8) (hn : nonce.length = 12) (n : Nat) (hn4 : n ≤ 4) (w : World) :
    Calls Try.prog 7 #[.agg (bvs key).toArray, .int .u32 (count : Int), .agg (bvs nonce).toArray, .int .i64 (n : Int)] w fun e w' => e = .returned (.bool true) ∧ Below w.heap.size w w' := by
  obtain ⟨i0, hi, hz0, hz1, hz2⟩ := info_parts infoB
  obtain ⟨X, hX⟩ : ∃ X, X = streamL key count nonce n := ⟨_, rfl⟩
  have hXl : X.length = 64 * n := by rw [hX]; exact streamL_len _ _ _ _
  have hXb : ∀ i, i < n → (X.drop (64 * i)).take 64 = blockL key (count + i) nonce := fun i h => by rw [hX]; exact streamL_at _ _ _ _ _ h
  have c1 : ∀ v W, Sl W 1 v (64 * n) (bvs (List.replicate (64 * n) 0)) → Calls Try.prog 15 #[.agg (bvs key).toArray, .int .u32 (count : Int), .agg (bvs nonce).toArray, v] W fun e w' => ∃ r, e = .returned (.tuple #[r, .int .i64 0]) ∧ Own w' W.heap.size 1 r (64 * n) (bvs X) ∧ Below W.heap.size W w' := fun v W h => by
    have := xor4_ok key nonce hk hn count v (List.replicate (64 * n) 0) W (by rw [List.length_replicate]; exact h) ⟨by rw [List.length_replicate]; omega⟩ (by rw [List.length_replicate]; omega)
    rw [List.length_replicate, xorS, List.length_replicate, show (64 * n + 63) / 64 = n by omega, xorB_zero _ _ (streamL_len _ _ _ _), ← hX] at this
    exact this
  have hmk : ∀ W : World, (Instr.makeSlice 28 (.int .i64 (64 * (n : Int))) (.int .i64 (64 * (n : Int)))).run Try.prog W = .ok (.slice (some ⟨W.heap.size, 0, none⟩) (64 * n) (64 * n)) (W.alloc (.cells (bvs (List.replicate (64 * n) 0)).toArray 5)) := by
    intro W
    have hr := run_make (P := Try.prog) W 28 5 i0 (.int .u8 0) Try.underlying28 hi hz0 .i64 .i64 (64 * (n : Int)) (64 * (n : Int)) (by omega) (by omega) (by rw [hz2]; omega) (by omega)
    rw [show (64 * (n : Int)).toNat = 64 * n by omega, hz1, made_bytes] at hr
    exact hr
  have cb : ∀ i : Nat, i < n → ∀ w, Calls Try.prog 18 #[.agg (bvs key).toArray, .int .u32 ((count : Int) + (i : Int)), .agg (bvs nonce).toArray] w fun e w' => e = .returned (.agg (bvs ((X.drop (64 * i)).take 64)).toArray) ∧ Below w.heap.size w w' := fun i hi w => by
    have := block_any key nonce (count + i) hk hn (by unfold B32; omega) w
    rw [← hXb i hi] at this
    exact this
  have hBl : ∀ i, i < n → ((X.drop (64 * i)).take 64).length = 64 := fun i h => by rw [hXb i h]; exact blockL_len _ _ _
  have H1 := Held.mk c1
  have HMk := Held.mk hmk
  have HCb := Held.mk cb
  have HBl := Held.mk hBl
  have HXl := Held.mk hXl
  have HI32 : Held ((Try.prog.info? 33).map (·.size) = some (bvs key).length) := ⟨by rw [bvs_length, hk]; kernel_rfl⟩
  have HI12 : Held ((Try.prog.info? 34).map (·.size) = some (bvs nonce).length) := ⟨by rw [bvs_length, hn]; kernel_rfl⟩
  obtain ⟨ci, hci⟩ : ∃ ci : Int, ci = (count : Int) := ⟨_, rfl⟩
  rw [← hci] at H1 HCb ⊢
  have g1 : ¬ (4294967286 < ci) := by omega
  have g6 : 0 ≤ ci := by omega
  have g2 : ¬ ((n : Int) < 0) := by omega
  have g3 : ¬ (4 < (n : Int)) := by omega
  have m1 : IntKind.i64.wrap (64 * (n : Int)) = 64 * (n : Int) := IntWalk.i64_in _ (by omega)
  have hsa : Try.prog.underlying 28 = some (.slice (Try.prog.elem 28)) := by kernel_rfl
  have HSa := Held.mk hsa
  have HI0 := Held.mk (And.intro hi hz1)
  clear hX hXl hXb c1 hmk cb hBl hk hn hci hi hz0 hz1 hz2 hc hsa
  go_enter Try.func7, Try.ntmps7
  go_wp2_with (first
    | (go_at_call 13; refine (awake4_any _).mono ?_; rintro e w1 ⟨rfl, hb1⟩; obtain ⟨A1, A2⟩ := laid2' hb1; have BX := Held.mk (Bxs.mk (b := []) A1.out A2.out (Sl.zero _ _) (by have := hb1.size; simp at this; omega) ((((Below.refl _ _).alloc (Nat.le_refl _) _).alloc (by simp) _).trans (hb1.mono (by simp; omega)))); clear hb1 A1 A2))
  have hfb : ∀ x : ExtS (fun _ => False) w1, Below w1.heap.size w1 x.w := fun x => x.fr.below (Nat.le_refl _) (fun _ _ h => h)
  refine wp_region_t (fun _ => False) (fun _ _ => True) [.agg (bvs key).toArray, .agg (bvs nonce).toArray, .int .i64 (64 * (n : Int)), .int .i64 0] 3 (TΦ [(0, List.replicate (64 * n) 0), (1, X), (0, X)])
    [⟨sop [0, 33] [.var 4], .var 67, [], none⟩, ⟨sop [0, 34] [.var 6], .var 68, [], none⟩, ⟨sop [3, 8, 3] [.int .i64 64, .var 3], .var 69, [], none⟩, ⟨sop [11, 1] [.var 72], .var 70, [1], none⟩]
    [⟨5, 0, sop [17, 28] [.var 69, .var 69], []⟩, ⟨6, 1, sop [1, 15] [.var 67, .var 1, .var 68, .var 71], [0]⟩, ⟨8, 2, sop [11, 0] [.var 72], [1]⟩] []
    (by kernel_rfl) (TΦ.stable _) (fun _ _ _ _ h => h) trivial ?_ ?_ 67 71 rfl rfl [(9, .var 73), (10, .var 70)] (by kernel_rfl) fun x4 t φ hts ho hkeep hΦ _ => ?_
  · refine allFT_cons (FactT.of fun x => FactR.load fun φ => LoadQ.of Try.underlying33 rfl HI32.out ?_) (allFT_cons (FactT.of fun x => FactR.load fun φ => LoadQ.of Try.underlying34 rfl HI12.out ?_)
      (allFT_cons (FactT.of fun x => FactR.bin mulN fun φ => BinQ.mul m1) (allFT_cons (FactT.of fun x => FactR.extr fun φ z hd => ?_) allFT_nil)))
    · exact x.fr.range id (by have := rangeAt_of BX.out.k; simpa using this)
    · exact x.fr.range id (by have := rangeAt_of BX.out.n; simpa using this)
    · obtain ⟨r, e, _⟩ : TΦ [(0, List.replicate (64 * n) 0), (1, X), (0, X)] 1 (φ.getD 1 Go.undef) z.w := hd 1 (by simp)
      show (Instr.extract (φ.getD 1 Go.undef) 1).run Try.prog z.w = .ok (.int .i64 0) z.w
      rw [e]; rfl
  · refine allZS_cons (j := none) (by kernel_rfl) (FreshS.make fun φ z _ => ⟨_, _, HMk.out z.w, Fr.alloc _ _ _, ?_⟩) (allZS_cons (j := none) (by kernel_rfl) (FreshS.of fun x => FreshR.call (IsFn.mk' Try.func15 (by kernel_rfl) rfl) fun φ z hd => ?_) (allZS_cons (j := none) (by kernel_rfl) (FreshS.extr fun φ z hd => ?_) allZS_nil))
    · show Sl _ 1 _ (List.replicate (64 * n) (0 : UInt8)).length _
      rw [List.length_replicate]
      have := (Own.ofBox (B := 0) (laid0 z.w (.cells (bvs (List.replicate (64 * n) 0)).toArray 5)) (Nat.zero_le _) (by rw [List.length_replicate]; unfold maxLen; omega)).sl
      rw [List.length_replicate] at this
      exact this
    · have h0 : Sl z.w 1 (φ.getD 0 Go.undef) (List.replicate (64 * n) (0 : UInt8)).length (bvs (List.replicate (64 * n) 0)) := hd 0 (by simp)
      rw [List.length_replicate] at h0
      exact (H1.out _ _ h0).mono fun e w' ⟨r, he, ho, hb⟩ => ⟨_, he, Fr.ofBelow hb _, r, rfl, by rw [HXl.out]; exact ho.sl⟩
    · obtain ⟨r, e, hs⟩ : TΦ [(0, List.replicate (64 * n) 0), (1, X), (0, X)] 1 (φ.getD 1 Go.undef) z.w := hd 1 (by simp)
      refine ⟨r, ?_, hs⟩
      show (Instr.extract (φ.getD 1 Go.undef) 0).run Try.prog z.w = .ok r z.w
      rw [e]; rfl
  have S4 : Held (Sl x4.w 1 (φ.getD 2 Go.undef) X.length (bvs X)) := ⟨hΦ (9, .var 73) (by simp) 2 rfl⟩
  obtain ⟨f, hf, et⟩ := frame_fn t 67 hts
  rw [show (List.range 67).map f = [f 0, f 1, f 2, f 3, f 4, f 5, f 6, f 7, f 8, f 9, f 10, f 11, f 12, f 13, f 14, f 15, f 16, f 17, f 18, f 19, f 20, f 21, f 22, f 23, f 24, f 25, f 26, f 27, f 28, f 29, f 30, f 31, f 32, f 33, f 34, f 35, f 36, f 37, f 38, f 39, f 40, f 41, f 42, f 43, f 44, f 45, f 46, f 47, f 48, f 49, f 50, f 51, f 52, f 53, f 54, f 55, f 56, f 57, f 58, f 59, f 60, f 61, f 62, f 63, f 64, f 65, f 66] from by kernel_rfl] at et
  have q9 : f 9 = φ.getD 2 Go.undef := (hf 9).symm.trans (ho (9, .var 73) (by simp))
  have q10 : f 10 = .int .i64 0 := (hf 10).symm.trans (ho (10, .var 70) (by simp))
  have q1 : f 1 = .int .u32 ci := by rw [← hf, Array.getD_eq_getD_getElem?, hkeep 1 (by kernel_rfl)]; rfl
  have q3 : f 3 = .int .i64 (n : Int) := by rw [← hf, Array.getD_eq_getD_getElem?, hkeep 3 (by kernel_rfl)]; rfl
  have q4 : f 4 = .pointer (some ⟨w.heap.size, 0, none⟩) := by rw [← hf, Array.getD_eq_getD_getElem?, hkeep 4 (by kernel_rfl)]; rfl
  have q6 : f 6 = .pointer (some ⟨w.heap.size + 1, 0, none⟩) := by rw [← hf, Array.getD_eq_getD_getElem?, hkeep 6 (by kernel_rfl)]; rfl
  rw [q1, q3, q4, q6, q9, q10] at et
  rw [et]
  have BX4 := Held.mk (BX.out.step (hfb x4))
  obtain ⟨r4, hr4⟩ : ∃ r4, r4 = φ.getD 2 Go.undef := ⟨_, rfl⟩
  rw [← hr4] at S4 ⊢
  rw [HXl.out] at S4
  obtain ⟨ra, rc, rfl⟩ := S4.out.form
  clear hr4 q1 q3 q4 q6 q9 q10 et hkeep ho hΦ hfb BX hf hts
  clear t
  go_wp2_with fail
  have HX4 := Held.mk (And.intro S4.out BX4.out.below)
  go_loopw [11, 12] (fun i _ wr => ∃ k : Nat, i = .int .i64 (k : Int) ∧ k ≤ n ∧ Held (Bxs key nonce [] (.slice none 0 0) w wr) ∧ Held (Sl wr 1 (.slice ra (64 * n) rc) (64 * n) (bvs X))) (fun i _ _ => n - (intOf i).toNat)
  case atStart => exact ⟨0, rfl, by omega, BX4, S4⟩
  case round =>
    obtain ⟨k, rfl, hk, hB, hS⟩ := hrel
    clear BX4 S4 HX4
    by_cases hlt : k < n
    · obtain ⟨B, hBe⟩ : ∃ B, B = (X.drop (64 * k)).take 64 := ⟨_, rfl⟩
      have hBl := HBl.out k hlt
      have hCb := HCb.out k hlt
      rw [← hBe] at hBl hCb
      have hlti : (k : Int) < (n : Int) := by omega
      have hk4 : (k : Int) ≤ 3 := by omega
      have hZ : (64 : Nat) = (bvs B).length := by rw [bvs_length, hBl]
      have hz64 : (Try.prog.info? 37).map (·.size) = some (bvs B).length := by rw [bvs_length, hBl]; kernel_rfl
      have HZ := Held.mk hZ
      have HZ64 := Held.mk hz64
      have HCB := Held.mk hCb
      have HBe := Held.mk (And.intro hBe hBl)
      have HI32c := HI32
      clear hZ hz64 hCb hBl hBe
      go_wp2_with (first
        | (go_at_call 18; refine (HCB.out _).mono ?_; rintro e w2 ⟨rfl, hb2⟩; have HB2 := Held.mk hb2; clear hb2)
        | (refine wpList_loadB rfl rfl hB.out.k rfl Try.underlying33 rfl HI32.out ?_)
        | (refine wpList_loadB rfl rfl hB.out.n rfl Try.underlying34 rfl HI12.out ?_)
        | (refine wpList_storeR rfl rfl rfl (laid0 _ _) HZ.out rfl rfl HZ64.out (bvs_one _) ?_; intro w9 hr9 hf9 hs9; have HF9 := Held.mk hf9; have HS9 := Held.mk hs9; have HR9 := Held.mk hr9; clear hf9 hs9 hr9))
      obtain ⟨ca, cc, hcut, hcutS, _⟩ := ex_cut_lh Try.underlying28 HI0.out.1 hS.out HI0.out.2 .i64 .i64 (64 * (k : Int)) (64 * (k : Int) + 64) (by omega) (by omega) (by omega)
      have hsl : ∀ w', (Instr.sliceAt 37 (.pointer (some ⟨w2.heap.size, 0, none⟩)) none none none).run Try.prog w' = .ok (.slice (some ⟨w2.heap.size, 0, none⟩) 64 64) w' := fun w' => slice_arr0 Try.underlying37 HI0.out.1 w'
      have BW9 : Below wr.heap.size wr w9 := (HB2.out.alloc HB2.out.size _).trans (HF9.out.below (by have := HB2.out.size; simp; omega) (fun i hi e => by have := HB2.out.size; omega))
      have FD : Fr (fun _ => False) wr w9.drew := (Fr.ofBelow BW9 _).trans (Fr.drew _ _)
      have e64 : (64 * (k : Int)).toNat = 64 * k := by omega
      have hbl : (64 * (k : Int) + 64).toNat - (64 * (k : Int)).toNat = 64 := by omega
      have SC := hcutS w9.drew (hS.out.fr FD (fun _ _ _ _ => id))
      rw [hbl, bvs_mid, e64, ← HBe.out.1] at SC
      rw [hbl] at hcut
      have SX := (Own.ofBox (B := 0) HR9.out (Nat.zero_le _) (by rw [HBe.out.2]; decide)).sl.fr (Fr.drew (fun _ => False) _) (fun _ _ _ _ => id)
      rw [HBe.out.2] at SX
      have t1 := SC.str (P := Try.prog) 28 9 5 Try.underlying9 Try.underlying28 Try.underlying5
      have t2 := SX.str (P := Try.prog) 28 9 5 Try.underlying9 Try.underlying28 Try.underlying5
      obtain ⟨sb, hsb⟩ : ∃ s : ByteArray, s = ⟨B.toArray⟩ := ⟨_, rfl⟩
      rw [← hsb] at t1 t2
      have w1 : IntKind.i64.wrap (64 * (k : Int)) = 64 * (k : Int) := IntWalk.i64_in _ (by omega)
      have w2' : IntKind.i64.wrap (64 * (k : Int) + 64) = 64 * (k : Int) + 64 := IntWalk.i64_in _ (by omega)
      have HFD := Held.mk (And.intro BW9 FD)
      clear SC SX hsb BW9 FD e64 hbl hcutS
      go_region_law fail
      all_goals
        go_wp2
        go_roundw
        case rel => exact ⟨k + 1, by push_cast; rfl, by omega, ⟨(hB.out.step HFD.out.1).drew⟩, ⟨hS.out.fr HFD.out.2 (fun _ _ _ _ => id)⟩⟩
        case measure => simp [intOf]; omega
    · obtain rfl : k = n := by omega
      go_wp2
      go_ret
      exact ⟨rfl, hB.out.below⟩
theorem walk (key : List UInt8) (hk : key.length = 32) (count : Int) (hc : 0 ≤ count ∧ count < 4294967296) (nonce : List UInt8) (hn : nonce.length = 12) (n : Int) (hI : I64 n) (W : World) :
    Calls Try.prog 7 #[.agg (bvs key).toArray, .int .u32 count, .agg (bvs nonce).toArray, .int .i64 n] W fun e w' => e = .returned (.bool true) ∧ Below W.heap.size W w' := by
  by_cases h : 0 ≤ n ∧ n ≤ 4 ∧ count ≤ 4294967286
  · obtain ⟨c, rfl⟩ : ∃ c : Nat, count = c := ⟨count.toNat, by omega⟩
    obtain ⟨k, rfl⟩ : ∃ k : Nat, n = k := ⟨n.toNat, by omega⟩
    exact main key hk c (by omega) nonce hn k (by omega) W
  · exact guards key count hc nonce n hI W (by omega)
end Go.Proofs.Ytokndemdmkaofaa.chachaStream
