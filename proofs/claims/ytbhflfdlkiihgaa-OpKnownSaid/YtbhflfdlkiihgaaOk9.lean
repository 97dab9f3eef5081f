/- Edits' bytes are a slice of the call's own. No condition. -/
import Derived.Test.YtbhflfdlkiihgaaOk6
import Derived.Test.YtbhflfdlkiihgaaSxA
namespace Go.Sx
open Go Go.RowKit Go.Bx
theorem Goes.calls {P : Program} {f : FuncId} {vs : Array Value} {w : World} {R : Value → World → Prop} (h : Goes P f vs w R) {fn : Func} {body : Code} (hf : P.funcs[f]? = some fn) (hname : (fn.name == "runtime.NumGoroutine") = false) (hb : fn.body = some body) :
    Calls P f vs w fun e w' => ∃ v, e = .returned v ∧ R v w' := by
  rcases h with ⟨_, _, _, _, _, h4⟩ | ⟨v, h1, _⟩
  · exact h4
  · rw [Go.MuLone.run_callFunc_enter hf hname hb] at h1
    cases h1
end Go.Sx
namespace Go.Proofs.Ytbhflfdlkiihgaa
open Go.RowKit Go.Bx Go.Sx
set_option linter.unusedSimpArgs false
set_option linter.unusedVariables false
abbrev edV (d n s0 s1 s2 s3 s4 s5 s6 s7 k : Int) (c f v : List UInt8) (t : Int) : List Value := [.int .i64 d, .int .i64 n, .int .i64 s0, .int .i64 s1, .int .i64 s2, .int .i64 s3, .int .i64 s4, .int .i64 s5, .int .i64 s6, .int .i64 s7, .int .i64 k, .string ⟨c.toArray⟩, .string ⟨f.toArray⟩, .string ⟨v.toArray⟩, .int .i64 t]
theorem funnel {P : Program} {c : Code} {Q : Exit → Act → World → Prop} {a : Act} {w : World} (R : Act → World → Prop) (h : Code.wp P c (Exit.then R fun _ _ _ => False) a w) (hQ : ∀ a' w', R a' w' → Q .normal a' w') : Code.wp P c Q a w :=
  Code.wp_mono (Q := Exit.then R fun _ _ _ => False) (fun e a w h => by
    cases e with
    | normal => exact hQ _ _ h
    | _ => exact h.elim) h
theorem good_calls {d n s0 s1 s2 s3 s4 s5 s6 s7 k c f v t : Int} (h : goodE [d, n, s0, s1, s2, s3, s4, s5, s6, s7, k, c, f, v, t] = true) (hl : (decZ c).length ≤ 1000 ∧ (decZ f).length ≤ 1000 ∧ (decZ v).length ≤ 1000)
    (hg : ckGoods (fun i => [d, n, s0, s1, s2, s3, s4, s5, s6, s7, k, c, f, v, t].getD i 0) 0 [.int .i64, .int .i64, .int .i64, .int .i64, .int .i64, .int .i64, .int .i64, .int .i64, .int .i64, .int .i64, .int .i64, .str, .str, .str, .int .i64]) (w : World) :
    Calls Try.prog 11 #[.agg (edV d n s0 s1 s2 s3 s4 s5 s6 s7 k (decZ c) (decZ f) (decZ v) t).toArray] w fun e w' => e = .returned (.bool true) ∧ Below w.heap.size w w' := by
  have h1 := (okGood.old rfl) w [.agg (edV d n s0 s1 s2 s3 s4 s5 s6 s7 k (decZ c) (decZ f) (decZ v) t).toArray] [[d, n, s0, s1, s2, s3, s4, s5, s6, s7, k, c, f, v, t]] ⟨⟨rfl, rfl, hg⟩, trivial⟩ hl
  refine (h1.calls (fn := Try.f11) (body := (Try.f11).body.getD .skip) (by kernel_rfl) (by kernel_rfl) (by kernel_rfl)).mono ?_
  rintro e w' ⟨u, rfl, hv, _, hb⟩
  have hv : u = .bool (decide (b2i (goodE [d, n, s0, s1, s2, s3, s4, s5, s6, s7, k, c, f, v, t]) ≠ 0)) := hv
  rw [hv, h]
  exact ⟨rfl, hb⟩
theorem cells15 {w : World} {g : Nat} {ty : TypeId} {d n s0 s1 s2 s3 s4 s5 s6 s7 k : Int} {C F V : List UInt8} {t : Int} (h : w.heap[g]? = some (.cells (edV d n s0 s1 s2 s3 s4 s5 s6 s7 k C F V t).toArray ty (0, 0))) :
    w.cell? ⟨g, 0, none⟩ = some (.int .i64 d) ∧ w.cell? ⟨g, 1, none⟩ = some (.int .i64 n) ∧ w.cell? ⟨g, 2, none⟩ = some (.int .i64 s0) ∧ w.cell? ⟨g, 3, none⟩ = some (.int .i64 s1) ∧ w.cell? ⟨g, 4, none⟩ = some (.int .i64 s2) ∧ w.cell? ⟨g, 5, none⟩ = some (.int .i64 s3) ∧ w.cell? ⟨g, 6, none⟩ = some (.int .i64 s4) ∧ w.cell? ⟨g, 7, none⟩ = some (.int .i64 s5) ∧ w.cell? ⟨g, 8, none⟩ = some (.int .i64 s6) ∧ w.cell? ⟨g, 9, none⟩ = some (.int .i64 s7) ∧ w.cell? ⟨g, 10, none⟩ = some (.int .i64 k) ∧ w.cell? ⟨g, 11, none⟩ = some (.string ⟨C.toArray⟩) ∧ w.cell? ⟨g, 12, none⟩ = some (.string ⟨F.toArray⟩) ∧ w.cell? ⟨g, 13, none⟩ = some (.string ⟨V.toArray⟩) ∧ w.cell? ⟨g, 14, none⟩ = some (.int .i64 t) :=
  ⟨by rw [cell_of_row w g 0 _ _ _ h]; rfl, by rw [cell_of_row w g 1 _ _ _ h]; rfl, by rw [cell_of_row w g 2 _ _ _ h]; rfl, by rw [cell_of_row w g 3 _ _ _ h]; rfl, by rw [cell_of_row w g 4 _ _ _ h]; rfl, by rw [cell_of_row w g 5 _ _ _ h]; rfl, by rw [cell_of_row w g 6 _ _ _ h]; rfl, by rw [cell_of_row w g 7 _ _ _ h]; rfl, by rw [cell_of_row w g 8 _ _ _ h]; rfl, by rw [cell_of_row w g 9 _ _ _ h]; rfl, by rw [cell_of_row w g 10 _ _ _ h]; rfl, by rw [cell_of_row w g 11 _ _ _ h]; rfl, by rw [cell_of_row w g 12 _ _ _ h]; rfl, by rw [cell_of_row w g 13 _ _ _ h]; rfl, by rw [cell_of_row w g 14 _ _ _ h]; rfl⟩
theorem nmNum : (Try.f27.name == "runtime.NumGoroutine") = false := by kernel_rfl
theorem nmText : (Try.f29.name == "runtime.NumGoroutine") = false := by kernel_rfl
set_option maxHeartbeats 40000000 in
set_option maxRecDepth 100000 in
theorem oput_any {d n s0 s1 s2 s3 s4 s5 s6 s7 k c f v t : Int} (h : goodE [d, n, s0, s1, s2, s3, s4, s5, s6, s7, k, c, f, v, t] = true) (hl : (decZ c).length ≤ 1000 ∧ (decZ f).length ≤ 1000 ∧ (decZ v).length ≤ 1000)
    (hg : ckGoods (fun i => [d, n, s0, s1, s2, s3, s4, s5, s6, s7, k, c, f, v, t].getD i 0) 0 [.int .i64, .int .i64, .int .i64, .int .i64, .int .i64, .int .i64, .int .i64, .int .i64, .int .i64, .int .i64, .int .i64, .str, .str, .str, .int .i64]) (w : World) :
    Calls Try.prog 10 #[.agg (edV d n s0 s1 s2 s3 s4 s5 s6 s7 k (decZ c) (decZ f) (decZ v) t).toArray] w fun e w' => ∃ r, e = .returned r ∧ Own w' w.heap.size 1 r (putE [d, n, s0, s1, s2, s3, s4, s5, s6, s7, k, c, f, v, t]).length (bvs (putE [d, n, s0, s1, s2, s3, s4, s5, s6, s7, k, c, f, v, t])) ∧ Below w.heap.size w w' := by
  have HG := Held.mk (fun w => good_calls h hl hg w)
  obtain ⟨hc, hf, hv⟩ := hl
  obtain ⟨g0, g1, i0, i1, i2, i3, i4, i5, i6, i7, g10, -, -, -, g14, -⟩ := hg
  have HP := Held.mk h
  clear h
  generalize hcc : decZ c = C at *
  generalize hff : decZ f = F at *
  generalize hvv : decZ v = V at *
  have key : ∃ W, Held (W = w.alloc (.cells (edV d n s0 s1 s2 s3 s4 s5 s6 s7 k C F V t).toArray 28)) ∧ Held (W.heap[w.heap.size]? = some (.cells (edV d n s0 s1 s2 s3 s4 s5 s6 s7 k C F V t).toArray 28 (0, 0))) ∧ Held (Below w.heap.size w W) ∧ w.heap.size < W.heap.size :=
    ⟨_, ⟨rfl⟩, ⟨laid0 _ _⟩, ⟨(Below.refl _ _).alloc (Nat.le_refl _) _⟩, by simp⟩
  obtain ⟨W, hW, HA, HL, hlt⟩ := key
  have HLT := Held.mk hlt
  clear hlt
  have HN : Held (∀ W', Below W.heap.size W W' → W'.heap[w.heap.size]? = some (.cells (edV d n s0 s1 s2 s3 s4 s5 s6 s7 k C F V t).toArray 28 (0, 0))) := ⟨fun W' hb => by rw [hb.block _ HLT.out]; exact HA.out⟩
  obtain ⟨c0, c1, c2, c3, c4, c5, c6, c7, c8, c9, c10, c11, c12, c13, c14⟩ := cells15 (HN.out W (Below.refl _ _))
  go_enter Try.func10, Try.ntmps10
  go_wp2_with (first
    | rw [← hW.out]
    | (go_at_call 11; refine (HG.out _).mono ?_; rintro e w1 ⟨rfl, hb1⟩; have HB1 := Held.mk hb1; clear hb1; clear c0 c1 c2 c3 c4 c5 c6 c7 c8 c9 c10 c11 c12 c13 c14; obtain ⟨c0, c1, c2, c3, c4, c5, c6, c7, c8, c9, c10, c11, c12, c13, c14⟩ := cells15 (HN.out _ HB1.out)))
  have g0 : InR .i64 d := g0
  have g1 : InR .i64 n := g1
  have g10 : InR .i64 k := g10
  have g14 : InR .i64 t := g14
  have hd64 : I64 d := ⟨g0.lo, g0.hi⟩
  have hn64 : I64 n := ⟨g1.lo, g1.hi⟩
  have hk64 : I64 k := ⟨g10.lo, g10.hi⟩
  have ht64 : I64 t := ⟨g14.lo, g14.hi⟩
  have e0 := enc_len d.toNat (by have := g0.hi; simp only [hi] at this; omega)
  have e1 := enc_len n.toNat (by have := g1.hi; simp only [hi] at this; omega)
  have e2 := enc_len k.toNat (by have := g10.hi; simp only [hi] at this; omega)
  have e3 := enc_len t.toNat (by have := g14.hi; simp only [hi] at this; omega)
  have hsI : ∀ x ∈ [s0, s1, s2, s3, s4, s5, s6, s7], I64 x := by
    intro x hx
    simp only [List.mem_cons, List.not_mem_nil, or_false] at hx
    rcases hx with rfl | rfl | rfl | rfl | rfl | rfl | rfl | rfl
    · exact i64_of i0
    · exact i64_of i1
    · exact i64_of i2
    · exact i64_of i3
    · exact i64_of i4
    · exact i64_of i5
    · exact i64_of i6
    · exact i64_of i7
  obtain ⟨L1, hL1⟩ : ∃ L, L = ([] ++ enc d.toNat) ++ enc n.toNat := ⟨_, rfl⟩
  obtain ⟨L2, hL2⟩ : ∃ L, L = putL L1 [s0, s1, s2, s3, s4, s5, s6, s7] := ⟨_, rfl⟩
  obtain ⟨L3, hL3⟩ : ∃ L, L = L2 ++ enc k.toNat := ⟨_, rfl⟩
  obtain ⟨L4, hL4⟩ : ∃ L, L = L3 ++ enc t.toNat := ⟨_, rfl⟩
  obtain ⟨L5, hL5⟩ : ∃ L, L = L4 ++ lenE C := ⟨_, rfl⟩
  obtain ⟨L6, hL6⟩ : ∃ L, L = L5 ++ lenE F := ⟨_, rfl⟩
  obtain ⟨L7, hL7⟩ : ∃ L, L = L6 ++ lenE V := ⟨_, rfl⟩
  have hfin : Held (putE [d, n, s0, s1, s2, s3, s4, s5, s6, s7, k, c, f, v, t] = L7) := ⟨by
    simp only [putE, HP.out, if_true, hcc, hff, hvv, hL7, hL6, hL5, hL4, hL3, hL2, hL1]⟩
  have b1 : L1.length ≤ 18 := by rw [hL1]; simp; omega
  have b2 : L2.length ≤ 18 + 72 := by rw [hL2]; have h9 := putL_len L1 _ hsI; rw [show [s0, s1, s2, s3, s4, s5, s6, s7].length = 8 from rfl] at h9; omega
  have b3 : L3.length ≤ 100 := by rw [hL3, List.length_append]; omega
  have b4 : L4.length ≤ 110 := by rw [hL4, List.length_append]; omega
  have b5 : L5.length ≤ 1200 := by rw [hL5, List.length_append]; have := lenE_length C ⟨by omega⟩; omega
  have b6 : L6.length ≤ 2300 := by rw [hL6, List.length_append]; have := lenE_length F ⟨by omega⟩; omega
  have b7 : L7.length ≤ 3400 := by rw [hL7, List.length_append]; have := lenE_length V ⟨by omega⟩; omega
  have F1 : Fits (L1.length + 128) := ⟨by omega⟩
  have F2 : Fits (L2.length + 16) := ⟨by omega⟩
  have F3 : Fits (L3.length + 16) := ⟨by omega⟩
  have hszC : (⟨C.toArray⟩ : ByteArray).size = C.length := by simp [ByteArray.size]
  have hszF : (⟨F.toArray⟩ : ByteArray).size = F.length := by simp [ByteArray.size]
  have hszV : (⟨V.toArray⟩ : ByteArray).size = V.length := by simp [ByteArray.size]
  have F4 : Fits (L4.length + (⟨C.toArray⟩ : ByteArray).size + 16) := ⟨by rw [hszC]; omega⟩
  have F5 : Fits (L5.length + (⟨F.toArray⟩ : ByteArray).size + 16) := ⟨by rw [hszF]; omega⟩
  have F6 : Fits (L6.length + (⟨V.toArray⟩ : ByteArray).size + 16) := ⟨by rw [hszV]; omega⟩
  have z1 : Fits (([] : List UInt8).length + 16) := ⟨by simp⟩
  have z2 : Fits (([] ++ enc d.toNat).length + 16) := ⟨by simp; omega⟩
  have K1 := Held.mk hL1
  have K2 := Held.mk hL2
  have K3 := Held.mk hL3
  have K4 := Held.mk hL4
  have K5 := Held.mk hL5
  have K6 := Held.mk hL6
  have K7 := Held.mk hL7
  clear hL1 hL2 hL3 hL4 hL5 hL6 hL7 hcc hff hvv hszC hszF hszV b1 b2 b3 b4 b5 b6 b7 e1 e2 e3 g0 g1 i0 i1 i2 i3 i4 i5 i6 i7 g10 g14 hc hf hv HP
  have SI := Held.mk hsI
  clear hsI
  clear e0
  have HB0 := HL
  have D1 := Held.mk (HB1.out.drew)
  clear c0 c1 c2 c3 c4 c5 c6 c7 c8 c9 c10 c11 c12 c13 c14
  obtain ⟨c0, c1, c2, c3, c4, c5, c6, c7, c8, c9, c10, c11, c12, c13, c14⟩ := cells15 (HN.out _ D1.out)
  refine funnel (fun a' w' => ∃ x0 x4 x5 x6 x7 x8 x9 x10 x11 x12 x13 x14 x15 x16 x17 x18 x19 x20 x21 x22 x23 x24 x25 x26 x27 x28 x29 x30 x31 x32 x33 x34 x35 r : Value, a' = ⟨#[x0, .pointer (some ⟨w.heap.size, 0, none⟩), .slice none 0 0, r, x4, x5, x6, x7, x8, x9, x10, x11, x12, x13, x14, x15, x16, x17, x18, x19, x20, x21, x22, x23, x24, x25, x26, x27, x28, x29, x30, x31, x32, x33, x34, x35], []⟩ ∧ Own w' w.heap.size 1 r L1.length (bvs L1) ∧ Below W.heap.size W w') ?_ ?_
  · go_region_law (first
    | (have zz := HO2; clear zz; (refine step_calls rfl 27 _ _ rfl Try.func27 nmNum rfl rfl (num_any _ _ n _ HO2.out.sl z2 hn64) ?_; rintro e xw3 ⟨xr3, rfl, ho3, hb3⟩; refine ⟨_, rfl, ?_⟩; have HD3 := Held.mk (HD2.out.trans (hb3.mono HD2.out.size)); have HO3 := Held.mk (ho3.lower (Nat.le_trans HB0.out.size HD2.out.size)); rw [← K1.out] at HO3; clear ho3 hb3; clear c0 c1 c2 c3 c4 c5 c6 c7 c8 c9 c10 c11 c12 c13 c14; obtain ⟨c0, c1, c2, c3, c4, c5, c6, c7, c8, c9, c10, c11, c12, c13, c14⟩ := cells15 (HN.out _ HD3.out)))
    | (refine step_calls rfl 27 _ _ rfl Try.func27 nmNum rfl rfl (num_any _ [] d _ (Sl.zero _ _) z1 hd64) ?_; rintro e xw2 ⟨xr2, rfl, ho2, hb2⟩; refine ⟨_, rfl, ?_⟩; have HD2 := Held.mk (D1.out.trans (hb2.mono D1.out.size)); have HO2 := Held.mk (ho2.lower (Nat.le_trans HB0.out.size D1.out.size)); clear ho2 hb2; clear c0 c1 c2 c3 c4 c5 c6 c7 c8 c9 c10 c11 c12 c13 c14; obtain ⟨c0, c1, c2, c3, c4, c5, c6, c7, c8, c9, c10, c11, c12, c13, c14⟩ := cells15 (HN.out _ HD2.out)))
    all_goals exact ⟨_, _, _, _, _, _, _, _, _, _, _, _, _, _, _, _, _, _, _, _, _, _, _, _, _, _, _, _, _, _, _, _, _, _, rfl, HO3.out, HD3.out⟩
  rintro a' xw3b ⟨x0, x4, x5, x6, x7, x8, x9, x10, x11, x12, x13, x14, x15, x16, x17, x18, x19, x20, x21, x22, x23, x24, x25, x26, x27, x28, x29, x30, x31, x32, x33, x34, x35, xr3b, rfl, ho, hd⟩
  have HO3b := Held.mk ho
  have HD3b := Held.mk hd
  clear c0 c1 c2 c3 c4 c5 c6 c7 c8 c9 c10 c11 c12 c13 c14
  clear ho hd
  obtain ⟨ra, rc, rfl⟩ := HO3b.out.form
  obtain ⟨c0, c1, c2, c3, c4, c5, c6, c7, c8, c9, c10, c11, c12, c13, c14⟩ := cells15 (HN.out _ HD3b.out)
  go_wp2_with (go_at_call 28; refine (put_any _ L1 [s0, s1, s2, s3, s4, s5, s6, s7] rfl SI.out _ HO3b.out.sl F1).mono ?_; rintro e xw4 ⟨xr4, rfl, ho4, hb4⟩; have HD4 := Held.mk (HD3b.out.trans (hb4.mono HD3b.out.size)); have HO4 := Held.mk (ho4.lower (Nat.le_trans HB0.out.size HD3b.out.size)); rw [← K2.out] at HO4; clear ho4 hb4; clear c0 c1 c2 c3 c4 c5 c6 c7 c8 c9 c10 c11 c12 c13 c14; obtain ⟨c0, c1, c2, c3, c4, c5, c6, c7, c8, c9, c10, c11, c12, c13, c14⟩ := cells15 (HN.out _ HD4.out))
  have D4 := Held.mk (HD4.out.drew)
  clear c0 c1 c2 c3 c4 c5 c6 c7 c8 c9 c10 c11 c12 c13 c14
  obtain ⟨c0, c1, c2, c3, c4, c5, c6, c7, c8, c9, c10, c11, c12, c13, c14⟩ := cells15 (HN.out _ D4.out)
  refine funnel (fun a' w' => ∃ x0 x4 x5 x6 x7 x8 x9 x10 x11 x12 x13 x14 x15 x16 x17 x18 x19 x20 x21 x22 x23 x24 x25 x26 x27 x28 x29 x30 x31 x32 x33 x34 x35 r : Value, a' = ⟨#[x0, .pointer (some ⟨w.heap.size, 0, none⟩), .slice none 0 0, r, x4, x5, x6, x7, x8, x9, x10, x11, x12, x13, x14, x15, x16, x17, x18, x19, x20, x21, x22, x23, x24, x25, x26, x27, x28, x29, x30, x31, x32, x33, x34, x35], []⟩ ∧ Own w' w.heap.size 1 r L4.length (bvs L4) ∧ Below W.heap.size W w') ?_ ?_
  · go_region_law (first
    | (have zz := HO5; clear zz; (refine step_calls rfl 27 _ _ rfl Try.func27 nmNum rfl rfl (num_any _ _ t _ HO5.out.sl F3 ht64) ?_; rintro e xw6 ⟨xr6, rfl, ho6, hb6⟩; refine ⟨_, rfl, ?_⟩; have HD6 := Held.mk (HD5.out.trans (hb6.mono HD5.out.size)); have HO6 := Held.mk (ho6.lower (Nat.le_trans HB0.out.size HD5.out.size)); rw [← K4.out] at HO6; clear ho6 hb6; clear c0 c1 c2 c3 c4 c5 c6 c7 c8 c9 c10 c11 c12 c13 c14; obtain ⟨c0, c1, c2, c3, c4, c5, c6, c7, c8, c9, c10, c11, c12, c13, c14⟩ := cells15 (HN.out _ HD6.out)))
    | (refine step_calls rfl 27 _ _ rfl Try.func27 nmNum rfl rfl (num_any _ _ k _ HO4.out.sl F2 hk64) ?_; rintro e xw5 ⟨xr5, rfl, ho5, hb5⟩; refine ⟨_, rfl, ?_⟩; have HD5 := Held.mk (D4.out.trans (hb5.mono D4.out.size)); have HO5 := Held.mk (ho5.lower (Nat.le_trans HB0.out.size D4.out.size)); rw [← K3.out] at HO5; clear ho5 hb5; clear c0 c1 c2 c3 c4 c5 c6 c7 c8 c9 c10 c11 c12 c13 c14; obtain ⟨c0, c1, c2, c3, c4, c5, c6, c7, c8, c9, c10, c11, c12, c13, c14⟩ := cells15 (HN.out _ HD5.out)))
    all_goals exact ⟨_, _, _, _, _, _, _, _, _, _, _, _, _, _, _, _, _, _, _, _, _, _, _, _, _, _, _, _, _, _, _, _, _, _, rfl, HO6.out, HD6.out⟩
  rintro a' xw6b ⟨x0, x4, x5, x6, x7, x8, x9, x10, x11, x12, x13, x14, x15, x16, x17, x18, x19, x20, x21, x22, x23, x24, x25, x26, x27, x28, x29, x30, x31, x32, x33, x34, x35, xr6b, rfl, ho, hd⟩
  have HO6b := Held.mk ho
  have HD6b := Held.mk hd
  clear c0 c1 c2 c3 c4 c5 c6 c7 c8 c9 c10 c11 c12 c13 c14
  clear ho hd
  have D6 := Held.mk (HD6b.out.drew)
  obtain ⟨c0, c1, c2, c3, c4, c5, c6, c7, c8, c9, c10, c11, c12, c13, c14⟩ := cells15 (HN.out _ D6.out)
  go_wp2
  refine funnel (fun a' w' => ∃ x0 x3 x4 x5 x6 x7 x8 x9 x10 x11 x12 x13 x14 x15 x16 x17 x18 x19 x20 x21 x22 x23 x24 x25 x26 x27 x28 x29 x30 x31 x32 x33 x34 x35 r : Value, a' = ⟨#[x0, .pointer (some ⟨w.heap.size, 0, none⟩), r, x3, x4, x5, x6, x7, x8, x9, x10, x11, x12, x13, x14, x15, x16, x17, x18, x19, x20, x21, x22, x23, x24, x25, x26, x27, x28, x29, x30, x31, x32, x33, x34, x35], []⟩ ∧ Own w' w.heap.size 1 r L7.length (bvs L7) ∧ Below W.heap.size W w') ?_ ?_
  · go_region_law (first
    | (have zz := HO8; clear zz; (refine step_calls rfl 29 _ _ rfl Try.func29 nmText rfl rfl (wtext_any _ ⟨V.toArray⟩ _ _ HO8.out.sl F6) ?_; rintro e xw9 ⟨xr9, rfl, ho9, hb9⟩; refine ⟨_, rfl, ?_⟩; have HD9 := Held.mk (HD8.out.trans (hb9.mono HD8.out.size)); have HO9 := Held.mk (ho9.lower (Nat.le_trans HB0.out.size HD8.out.size)); rw [← K7.out] at HO9; clear ho9 hb9; clear c0 c1 c2 c3 c4 c5 c6 c7 c8 c9 c10 c11 c12 c13 c14; obtain ⟨c0, c1, c2, c3, c4, c5, c6, c7, c8, c9, c10, c11, c12, c13, c14⟩ := cells15 (HN.out _ HD9.out)))
    | (have zz := HO7; clear zz; (refine step_calls rfl 29 _ _ rfl Try.func29 nmText rfl rfl (wtext_any _ ⟨F.toArray⟩ _ _ HO7.out.sl F5) ?_; rintro e xw8 ⟨xr8, rfl, ho8, hb8⟩; refine ⟨_, rfl, ?_⟩; have HD8 := Held.mk (HD7.out.trans (hb8.mono HD7.out.size)); have HO8 := Held.mk (ho8.lower (Nat.le_trans HB0.out.size HD7.out.size)); rw [← K6.out] at HO8; clear ho8 hb8; clear c0 c1 c2 c3 c4 c5 c6 c7 c8 c9 c10 c11 c12 c13 c14; obtain ⟨c0, c1, c2, c3, c4, c5, c6, c7, c8, c9, c10, c11, c12, c13, c14⟩ := cells15 (HN.out _ HD8.out)))
    | (refine step_calls rfl 29 _ _ rfl Try.func29 nmText rfl rfl (wtext_any _ ⟨C.toArray⟩ _ _ HO6b.out.sl F4) ?_; rintro e xw7 ⟨xr7, rfl, ho7, hb7⟩; refine ⟨_, rfl, ?_⟩; have HD7 := Held.mk (D6.out.trans (hb7.mono D6.out.size)); have HO7 := Held.mk (ho7.lower (Nat.le_trans HB0.out.size D6.out.size)); rw [← K5.out] at HO7; clear ho7 hb7; clear c0 c1 c2 c3 c4 c5 c6 c7 c8 c9 c10 c11 c12 c13 c14; obtain ⟨c0, c1, c2, c3, c4, c5, c6, c7, c8, c9, c10, c11, c12, c13, c14⟩ := cells15 (HN.out _ HD7.out)))
    all_goals exact ⟨_, _, _, _, _, _, _, _, _, _, _, _, _, _, _, _, _, _, _, _, _, _, _, _, _, _, _, _, _, _, _, _, _, _, _, rfl, HO9.out, HD9.out⟩
  rintro a' xw9b ⟨x0, x3, x4, x5, x6, x7, x8, x9, x10, x11, x12, x13, x14, x15, x16, x17, x18, x19, x20, x21, x22, x23, x24, x25, x26, x27, x28, x29, x30, x31, x32, x33, x34, x35, xr9b, rfl, ho, hd⟩
  have HO9b := Held.mk ho
  have HD9b := Held.mk hd
  clear c0 c1 c2 c3 c4 c5 c6 c7 c8 c9 c10 c11 c12 c13 c14
  clear ho hd
  go_wp2
  go_ret
  rw [hfin.out]
  exact ⟨_, rfl, HO9b.out, HL.out.trans (HD9b.out.mono HL.out.size)⟩
end Go.Proofs.Ytbhflfdlkiihgaa
