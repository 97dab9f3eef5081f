/- Walks of chacha: bytes with the stream. Conditions: lengths within memory. -/
import Derived.Test.YtokndemdmkaofaaCha5
namespace Go.Bx
open Go Go.RowKit
/-- The first blocks, one behind the other. -/
def streamL (key : List UInt8) (count : Nat) (nonce : List UInt8) : Nat → List UInt8
  | 0 => []
  | k + 1 => streamL key count nonce k ++ blockL key (count + k) nonce
theorem streamL_len (key : List UInt8) (count : Nat) (nonce : List UInt8) : ∀ k, (streamL key count nonce k).length = 64 * k
  | 0 => rfl
  | k + 1 => by rw [streamL, List.length_append, streamL_len, blockL_len]; omega
theorem xorB_append : ∀ (b S B : List UInt8), S.length ≤ b.length → xorB b (S ++ B) = xorB b S ++ xorB (b.drop S.length) B
  | _, [], _, _ => by simp [xorB]
  | [], _ :: _, _, h => by simp at h
  | x :: b, y :: S, B, h => by
    have ih := xorB_append b S B (by simpa using h)
    unfold xorB at *
    simp only [List.cons_append, List.zipWith_cons_cons, List.length_cons, List.drop_succ_cons, ih]
theorem xorB_take : ∀ (a B : List UInt8) (n : Nat), B.length ≤ n → xorB (a.take n) B = xorB a B
  | [], _, _, _ => by simp
  | _ :: _, [], _, _ => by simp [xorB]
  | x :: a, y :: B, n, h => by
    obtain ⟨m, rfl⟩ : ∃ m, n = m + 1 := ⟨n - 1, by simp at h; omega⟩
    have ih := xorB_take a B m (by simpa using h)
    unfold xorB at *
    simp only [List.take_succ_cons, List.zipWith_cons_cons, ih]
/-- Bytes with the stream. -/
def xorS (key : List UInt8) (count : Nat) (nonce : List UInt8) (b : List UInt8) : List UInt8 := xorB b (streamL key count nonce ((b.length + 63) / 64))
theorem xorS_len (key : List UInt8) (count : Nat) (nonce : List UInt8) (b : List UInt8) : (xorS key count nonce b).length = b.length := by
  rw [xorS, xorB_len, streamL_len]; omega
end Go.Bx
namespace Go.Proofs.Ytokndemdmkaofaa
open Go.RowKit Go.Bx

theorem slice_arr0 {P : Program} {t e : TypeId} {n : Nat} {i : TypeInfo} (ht : P.underlying t = some (.array n e)) (hi : P.info? e = some i) {g : Nat} (w : World) :
    (Instr.sliceAt t (.pointer (some ⟨g, 0, none⟩)) none none none).run P w = .ok (.slice (some ⟨g, 0, none⟩) n n) w := by
  simp [Instr.sliceAt, Instr.sureAddr, Instr.sliceBounds, run_underlying ht, sizeOf, typeInfo, hi, Addr.add]
theorem own_ne {g o c n k : Nat} (h : g ≠ k) : (Value.slice (some ⟨g, o, none⟩) n c).ownBlock ≠ some k := fun e => h (Option.some.inj e)
structure XorW (key nonce b : List UInt8) (count : Nat) (w : World) (out i : Value) (wr : World) : Prop where
  ex : ∃ k : Nat, i = .int .i64 (64 * (k : Int)) ∧ k ≤ (b.length + 63) / 64 ∧ Own wr w.heap.size 1 out (xorB b (streamL key count nonce k)).length (bvs (xorB b (streamL key count nonce k))) ∧ out.ownBlock ≠ some w.heap.size ∧ out.ownBlock ≠ some (w.heap.size + 1) ∧
    wr.heap[w.heap.size]? = some (.cells (bvs key).toArray 33 (0, 0)) ∧ wr.heap[w.heap.size + 1]? = some (.cells (bvs nonce).toArray 34 (0, 0)) ∧ w.heap.size + 2 ≤ wr.heap.size ∧ Below w.heap.size w wr
theorem nmXor : (Try.f34.name == "runtime.NumGoroutine") = false := by kernel_rfl
set_option maxHeartbeats 1000000 in
theorem xor4_bad (key nonce : List UInt8) (count : Int) (v : Value) (b : List UInt8) (w : World) (hc : 0 ≤ count ∧ count < 4294967296) (hv : Sl w 1 v b.length (bvs b)) (hf : Fits (b.length + 128))
    (hbad : 4294967296 < ((b.length + 63) / 64 : Nat) + count) :
    Calls Try.prog 15 #[.agg (bvs key).toArray, .int .u32 count, .agg (bvs nonce).toArray, v] w fun e w' => e = .returned (.tuple #[.slice none 0 0, .int .i64 1]) ∧ Below w.heap.size w w' := by
  obtain ⟨va, vc, rfl⟩ := hv.form
  have hnb := hf.ok
  obtain ⟨n, hn⟩ : ∃ n, n = b.length := ⟨_, rfl⟩
  rw [← hn] at hbad hnb ⊢
  have htd : (n : Int).tdiv 64 = n / 64 := Int.tdiv_eq_ediv_of_nonneg (by omega)
  have htm : (n : Int).tmod 64 = n % 64 := Int.tmod_eq_emod_of_nonneg (by omega)
  clear hv hf hn
  by_cases hr : n % 64 = 0
  · have h1 : ¬ (0 < (n : Int) % 64) := by omega
    have h2 : 4294967296 - count < (n : Int) / 64 := by omega
    go_enter Try.func15, Try.ntmps15
    go_wp2
    go_ret2
    exact ⟨rfl, ((Below.refl _ _).alloc (Nat.le_refl _) _).alloc (by simp) _⟩
  · have h1 : 0 < (n : Int) % 64 := by omega
    have h2 : 4294967296 - count < (n : Int) / 64 + 1 := by omega
    go_enter Try.func15, Try.ntmps15
    go_wp2
    go_ret2
    exact ⟨rfl, ((Below.refl _ _).alloc (Nat.le_refl _) _).alloc (by simp) _⟩
set_option maxHeartbeats 1000000 in
theorem xor4_ok (key nonce : List UInt8) (hk : key.length = 32) (hn : nonce.length = 12) (count : Nat) (v : Value) (b : List UInt8) (w : World) (hv : Sl w 1 v b.length (bvs b)) (hf : Fits (b.length + 128))
    (hok : (b.length + 63) / 64 + count ≤ 4294967296) :
    Calls Try.prog 15 #[.agg (bvs key).toArray, .int .u32 (count : Int), .agg (bvs nonce).toArray, v] w fun e w' => ∃ r, e = .returned (.tuple #[r, .int .i64 0]) ∧ Own w' w.heap.size 1 r b.length (bvs (xorS key count nonce b)) ∧ Below w.heap.size w w' := by
  obtain ⟨i0, hi, hz0, hz1, hz2⟩ := info_parts infoB
  obtain ⟨va, vc, rfl⟩ := hv.form
  have HS := Held.mk hv
  have HK := Held.mk hk
  have HN := Held.mk hn
  have HF := Held.mk hf
  have hnb := hf.ok
  have hmk : ∀ W : World, (Instr.makeSlice 28 (.int .i64 0) (.int .i64 (b.length : Int))).run Try.prog W = .ok (.slice (some ⟨W.heap.size, 0, none⟩) 0 b.length) (W.alloc (.cells (bvs (List.replicate b.length 0)).toArray 5)) := by
    intro W
    have hr := run_make (P := Try.prog) W 28 5 i0 (.int .u8 0) Try.underlying28 hi hz0 .i64 .i64 0 (b.length : Int) (by omega) (by omega) (by rw [hz2]; omega) (by omega)
    rw [Int.toNat_natCast, hz1, made_bytes] at hr
    simpa using hr
  obtain ⟨m, hm⟩ : ∃ m : Int, m = (b.length : Int) := ⟨_, rfl⟩
  have htd : (b.length : Int).tdiv 64 = b.length / 64 := Int.tdiv_eq_ediv_of_nonneg (by omega)
  have htm : (b.length : Int).tmod 64 = b.length % 64 := Int.tmod_eq_emod_of_nonneg (by omega)
  obtain ⟨ci, hci⟩ : ∃ ci : Int, ci = (count : Int) := ⟨_, rfl⟩
  rw [← hci]
  have c0 : 0 ≤ ci := by omega
  have c1 : ci ≤ 4294967296 := by omega
  have HC := Held.mk hci
  have HM := Held.mk hm
  have HOK := Held.mk hok
  clear hv hf hk hn hm
  have hz : (¬ (0 < (b.length : Int) % 64) ∧ ¬ (4294967296 - ci < (b.length : Int) / 64)) ∨ (0 < (b.length : Int) % 64 ∧ ¬ (4294967296 - ci < (b.length : Int) / 64 + 1)) := by omega
  clear hok hci
  obtain ⟨i64, hi64, _, hi641, _⟩ := info_parts infoB
  rcases hz with ⟨h1, h2⟩ | ⟨h1, h2⟩
  all_goals
    go_enter Try.func15, Try.ntmps15
    go_wp2
    refine gen_world ?_
    intro W1 HW
    have S0 : XorW key nonce b count w (.slice (some ⟨w.heap.size + 1 + 1, 0, none⟩) 0 b.length) (.int .i64 0) W1 := by
      rw [HW.out]
      refine ⟨⟨0, rfl, by omega, ?_, own_ne (by omega), own_ne (by omega), laid1 (laid1 (laid0 _ _) _) _, laid1 (laidN _ (by simp) rfl) _, by simp, (((Below.refl _ _).alloc (Nat.le_refl _) _).alloc (by simp) _).alloc (by simp; omega) _⟩⟩
      refine ⟨by simp [streamL, xorB, bvs], .inr ⟨w.heap.size + 1 + 1, 0, b.length, (by simp [streamL, xorB]), by omega, by simp, by simp [streamL, xorB], (HF.out.le (Nat.le_add_right _ _)).max, fun j u hj => by simp [streamL, xorB, bvs] at hj, fun j hj => ?_, fun j hj => World.frozen?_alloc_at _ _ _ _ (by simp)⟩⟩
      rw [World.cell?_alloc_at _ _ _ _ (by simp), Array.getElem?_eq_getElem (by rw [List.size_toArray, bvs_length, List.length_replicate]; omega)]; rfl
    clear HW hmk h1 h2 htd htm
    go_loopw [11, 12, 13] (fun out i _ wr => XorW key nonce b count w out i wr) (fun _ i _ _ => b.length + 64 - (intOf i).toNat)
    case atStart => exact S0
    case round =>
      clear S0
      obtain ⟨k, rfl, hk, ho, hne1, hne2, hbk, hbn, hsz, hbel⟩ := hrel.ex
      obtain ⟨_, hcap⟩ := ho.form
      clear hrel
      have HO := Held.mk ho
      have HNE := Held.mk (And.intro hne1 hne2)
      have HBK := Held.mk hbk
      have HBN := Held.mk hbn
      have HSZ := Held.mk hsz
      have HBel := Held.mk hbel
      clear ho hne1 hne2 hbk hbn hsz hbel
      by_cases hlt : 64 * (k : Int) < (b.length : Int)
      · have hck : ci + (k : Int) < 4294967296 := by have := HC.out; have := HOK.out; omega
        have hkb : (k : Int) < 2199023255553 := by omega
        obtain ⟨B, hB⟩ : ∃ B, B = blockL key (count + k) nonce := ⟨_, rfl⟩
        have hBl : B.length = 64 := by rw [hB]; exact blockL_len _ _ _
        have hb : ∀ w, Calls Try.prog 18 #[.agg (bvs key).toArray, .int .u32 (ci + (k : Int)), .agg (bvs nonce).toArray] w fun e w' => e = .returned (.agg (bvs B).toArray) ∧ Below w.heap.size w w' := by
          intro w
          have := block_any key nonce (count + k) HK.out HN.out (by unfold B32; have := HC.out; omega) w
          rw [← hB, show ((count + k : Nat) : Int) = ci + (k : Int) from by rw [HC.out]; push_cast; rfl] at this
          exact this
        have hz64 : (Try.prog.info? 37).map (·.size) = some (bvs B).length := by rw [bvs_length, hBl]; kernel_rfl
        have hZ : (64 : Nat) = (bvs B).length := by rw [bvs_length, hBl]
        have hi32 : (Try.prog.info? 33).map (·.size) = some (bvs key).length := by rw [bvs_length, HK.out]; kernel_rfl
        have hi12 : (Try.prog.info? 34).map (·.size) = some (bvs nonce).length := by rw [bvs_length, HN.out]; kernel_rfl
        have HB := Held.mk hb
        have HZ64 := Held.mk hz64
        have HZ := Held.mk hZ
        have HI32 := Held.mk hi32
        have HI12 := Held.mk hi12
        have HBE := Held.mk (And.intro hB hBl)
        clear hb hz64 hZ hi32 hi12 hB hBl
        go_wp2_with (first
          | (go_at_call 18; refine (HB.out _).mono ?_; rintro e w1 ⟨rfl, hb1⟩; have HB1 := Held.mk hb1; clear hb1)
          | (refine wpList_loadB rfl rfl HBK.out rfl Try.underlying33 rfl HI32.out ?_)
          | (refine wpList_loadB rfl rfl HBN.out rfl Try.underlying34 rfl HI12.out ?_)
          | (refine wpList_storeR rfl rfl rfl (laid0 _ _) HZ.out rfl rfl HZ64.out (bvs_one _) ?_; intro w9 hr9 hf9 hs9; have HF9 := Held.mk hf9; have HS9 := Held.mk hs9; have HR9 := Held.mk hr9; clear hf9 hs9 hr9))
        obtain ⟨hh, hhe⟩ : ∃ hh : Int, (if (b.length : Int) < 64 * (k : Int) + 64 then (b.length : Int) else 64 * (k : Int) + 64) = hh := ⟨_, rfl⟩
        have hh0 : 64 * (k : Int) ≤ hh ∧ hh ≤ b.length ∧ (hh = b.length ∨ hh = 64 * (k : Int) + 64) := by rw [← hhe]; split <;> omega
        have hw1 : IntKind.i64.wrap (64 * (k : Int) + 64) = 64 * (k : Int) + 64 := IntWalk.i64_in _ (by omega)
        obtain ⟨ca, cc, hcut, hcutS, hcutB⟩ := ex_cut_lh Try.underlying28 hi64 HS.out hi641 .i64 .i64 (64 * (k : Int)) hh (by omega) hh0.1 hh0.2.1
        have hsl : ∀ w', (Instr.sliceAt 37 (.pointer (some ⟨w1.heap.size, 0, none⟩)) none none none).run Try.prog w' = .ok (.slice (some ⟨w1.heap.size, 0, none⟩) 64 64) w' := fun w' => slice_arr0 Try.underlying37 hi64 w'
        have BW9 : Below wr.heap.size wr w9 := (HB1.out.alloc HB1.out.size _).trans (HF9.out.below (by have := HB1.out.size; simp; omega) (fun i hi e => by have := HB1.out.size; omega))
        have FD : Fr (fun _ => False) wr w9.drew := (Fr.ofBelow BW9 _).trans (Fr.drew _ _)
        obtain ⟨bb, hbb⟩ : ∃ bb, bb = (b.drop (64 * k)).take (hh.toNat - 64 * k) := ⟨_, rfl⟩
        have e64 : (64 * (k : Int)).toNat = 64 * k := by omega
        have hbl : hh.toNat - (64 * (k : Int)).toNat = bb.length := by rw [hbb, List.length_take, List.length_drop, e64]; omega
        have SC := hcutS w9.drew ((HS.out.grow HBel.out).fr FD (fun _ _ _ _ => id))
        rw [bvs_mid, e64, ← hbb, ← e64, hbl] at SC
        rw [hbl] at hcut
        have SX := (Own.ofBox (B := 0) HR9.out (Nat.zero_le _) (by rw [HBE.out.2]; decide)).sl.fr (Fr.drew (fun _ => False) _) (fun _ _ _ _ => id)
        rw [HBE.out.2] at SX
        have hx : xorB bb B = xorB (b.drop (64 * k)) B := by
          rw [hbb]
          rcases hh0.2.2 with h | h
          · rw [List.take_of_length_le (by rw [List.length_drop]; omega)]
          · exact xorB_take _ _ _ (by rw [HBE.out.2]; omega)
        have hfA : Fits bb.length := HF.out.le (by rw [hbb, List.length_take, List.length_drop]; omega)
        have hfB : Fits B.length := ⟨by rw [HBE.out.2]; decide⟩
        have SX' : Sl w9.drew 1 (.slice (some ⟨w1.heap.size, 0, none⟩) 64 64) B.length (bvs B) := by rw [HBE.out.2]; exact SX
        have OD := HO.out.fr FD (fun _ _ _ => id)
        have hfit : Fits ((xorB b (streamL key count nonce k)).length + (xorB bb B).length) := HF.out.le (by rw [xorB_len, xorB_len, HBE.out.2]; omega)
        have hsz9 : w.heap.size ≤ w9.drew.heap.size := Nat.le_trans HBel.out.size BW9.size
        have HX := Held.mk hx
        have HSC := Held.mk SC
        have HSX := Held.mk SX'
        have HOD := Held.mk OD
        have HFA := Held.mk hfA
        have HFB := Held.mk hfB
        have HFit := Held.mk hfit
        have HSz9 := Held.mk hsz9
        have HFD := Held.mk FD
        have HHH := Held.mk (And.intro hbb hh0)
        have HI0 := Held.mk hi64
        clear hx SC SX SX' OD hfA hfB hfit hsz9 BW9 FD hbb hh0 hcutS hcutB hbl e64 hi64
        go_region_law (first
          | (refine step_calls (vs := [.slice ca bb.length cc, .slice (some ⟨w1.heap.size, 0, none⟩) 64 64]) rfl 34 _ _ rfl Try.func34 nmXor rfl (by kernel_rfl) (xor_any _ _ bb B _ HSC.out HSX.out HFA.out HFB.out) ?_; rintro e w7 ⟨r7, rfl, ho7, hb7⟩; refine ⟨_, rfl, ?_⟩; have HO7 := Held.mk ho7; have HB7 := Held.mk hb7; clear ho7 hb7)
          | (have zz := HB7; clear zz; refine step_append (v := u11) (y := r7) rfl _ _ 28 28 rfl (HOD.out.grow HB7.out) (by kernel_rfl) 5 i0 (.int .u8 0) 1 Try.underlying28 hi hz0 hz1 hz2 rfl Nat.one_pos (by kernel_rfl) (HO7.out.sl.src (bvs_one _) Try.underlying28) HFit.out.max HFit.out.mul (Nat.le_trans HSz9.out HB7.out.size) ?_; intro v' w8 hown8 hfr8 hob8; have HOw := Held.mk hown8; have HFr := Held.mk hfr8; have HOb := Held.mk hob8; clear hown8 hfr8 hob8))
        go_wp2
        go_roundw
        case rel =>
          obtain ⟨hbb, h0, h1, h2⟩ := HHH.out
          have hsl : (streamL key count nonce k).length = 64 * k := streamL_len _ _ _ _
          have hsz : w.heap.size + 2 ≤ w7.heap.size := Nat.le_trans HSZ.out (Nat.le_trans HFD.out.size HB7.out.size)
          have F8 : Fr (fun j => u11.ownBlock = some j) wr w8 := ((HFD.out.trans (Fr.ofBelow HB7.out _)).mono (fun _ _ h => h.elim)).trans (HFr.out.mono (fun _ _ h => h.2))
          refine ⟨⟨k + 1, congrArg (Value.int .i64) (by omega), by omega, ?_, ?_, ?_, ?_, ?_, ?_, ?_⟩⟩
          · have e : xorB b (streamL key count nonce (k + 1)) = xorB b (streamL key count nonce k) ++ xorB bb B := by
              rw [streamL, xorB_append _ _ _ (by rw [hsl]; omega), hsl, HX.out, HBE.out.1]
            rw [e, bvs_append, List.length_append]; exact HOw.out
          · rcases HOb.out with h | h
            · rw [h]; exact HNE.out.1
            · rw [h]; intro e; have := Option.some.inj e; omega
          · rcases HOb.out with h | h
            · rw [h]; exact HNE.out.2
            · rw [h]; intro e; have := Option.some.inj e; omega
          · rw [F8.block _ (by have := HSZ.out; omega) HNE.out.1]; exact HBK.out
          · rw [F8.block _ (by have := HSZ.out; omega) HNE.out.2]; exact HBN.out
          · exact Nat.le_trans HSZ.out F8.size
          · exact HBel.out.trans ((((HFD.out.trans (Fr.ofBelow HB7.out _)).below HBel.out.size (fun _ _ h => h))).trans (HFr.out.own (Nat.le_trans HSz9.out HB7.out.size)))
        case measure => simp only [intOf]; omega
      · have hkn : k = (b.length + 63) / 64 := by omega
        go_wp2
        go_ret2
        refine ⟨_, rfl, ?_, HBel.out⟩
        have ho := HO.out
        rw [hkn] at ho
        rw [← xorS_len key count nonce b]
        exact ho
end Go.Proofs.Ytokndemdmkaofaa
