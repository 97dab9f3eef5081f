/- op.Put answers a slice of its own, whatever the edit. No condition. -/
import Derived.Test.YtbhflfdlkiihgaaOk9
namespace Go.Proofs.Ytbhflfdlkiihgaa
open Go.RowKit Go.Bx Go.Sx
set_option linter.unusedSimpArgs false
set_option linter.unusedVariables false
theorem bad_calls {d n s0 s1 s2 s3 s4 s5 s6 s7 k c f v t : Int} (h : goodE [d, n, s0, s1, s2, s3, s4, s5, s6, s7, k, c, f, v, t] = false) (hl : (decZ c).length ≤ 1000 ∧ (decZ f).length ≤ 1000 ∧ (decZ v).length ≤ 1000)
    (hg : ckGoods (fun i => [d, n, s0, s1, s2, s3, s4, s5, s6, s7, k, c, f, v, t].getD i 0) 0 [.int .i64, .int .i64, .int .i64, .int .i64, .int .i64, .int .i64, .int .i64, .int .i64, .int .i64, .int .i64, .int .i64, .str, .str, .str, .int .i64]) (w : World) :
    Calls Try.prog 11 #[.agg (edV d n s0 s1 s2 s3 s4 s5 s6 s7 k (decZ c) (decZ f) (decZ v) t).toArray] w fun e w' => e = .returned (.bool false) ∧ Below w.heap.size w w' := by
  have h1 := (okGood.old rfl) w [.agg (edV d n s0 s1 s2 s3 s4 s5 s6 s7 k (decZ c) (decZ f) (decZ v) t).toArray] [[d, n, s0, s1, s2, s3, s4, s5, s6, s7, k, c, f, v, t]] ⟨⟨rfl, rfl, hg⟩, trivial⟩ hl
  refine (h1.calls (fn := Try.f11) (body := (Try.f11).body.getD .skip) (by kernel_rfl) (by kernel_rfl) (by kernel_rfl)).mono ?_
  rintro e w' ⟨u, rfl, hv, _, hb⟩
  have hv : u = .bool (decide (b2i (goodE [d, n, s0, s1, s2, s3, s4, s5, s6, s7, k, c, f, v, t]) ≠ 0)) := hv
  rw [hv, h]
  exact ⟨rfl, hb⟩
set_option maxHeartbeats 4000000 in
set_option maxRecDepth 100000 in
theorem oput_bad {d n s0 s1 s2 s3 s4 s5 s6 s7 k c f v t : Int} (h : goodE [d, n, s0, s1, s2, s3, s4, s5, s6, s7, k, c, f, v, t] = false) (hl : (decZ c).length ≤ 1000 ∧ (decZ f).length ≤ 1000 ∧ (decZ v).length ≤ 1000)
    (hg : ckGoods (fun i => [d, n, s0, s1, s2, s3, s4, s5, s6, s7, k, c, f, v, t].getD i 0) 0 [.int .i64, .int .i64, .int .i64, .int .i64, .int .i64, .int .i64, .int .i64, .int .i64, .int .i64, .int .i64, .int .i64, .str, .str, .str, .int .i64]) (w : World) :
    Calls Try.prog 10 #[.agg (edV d n s0 s1 s2 s3 s4 s5 s6 s7 k (decZ c) (decZ f) (decZ v) t).toArray] w fun e w' => ∃ r, e = .returned r ∧ Own w' w.heap.size 1 r 0 [] ∧ Below w.heap.size w w' := by
  have HG := Held.mk (fun w => bad_calls h hl hg w)
  clear h hg hl
  generalize hcc : decZ c = C at *
  generalize hff : decZ f = F at *
  generalize hvv : decZ v = V at *
  clear hcc hff hvv
  have key : ∃ W, Held (W = w.alloc (.cells (edV d n s0 s1 s2 s3 s4 s5 s6 s7 k C F V t).toArray 28)) ∧ Held (W.heap[w.heap.size]? = some (.cells (edV d n s0 s1 s2 s3 s4 s5 s6 s7 k C F V t).toArray 28 (0, 0))) ∧ Held (Below w.heap.size w W) ∧ w.heap.size < W.heap.size :=
    ⟨_, ⟨rfl⟩, ⟨laid0 _ _⟩, ⟨(Below.refl _ _).alloc (Nat.le_refl _) _⟩, by simp⟩
  obtain ⟨W, hW, HA, HL, hlt⟩ := key
  clear hlt
  obtain ⟨c0, c1, c2, c3, c4, c5, c6, c7, c8, c9, c10, c11, c12, c13, c14⟩ := cells15 HA.out
  go_enter Try.func10, Try.ntmps10
  go_wp2_with (first
    | rw [← hW.out]
    | (go_at_call 11; refine (HG.out _).mono ?_; rintro e w1 ⟨rfl, hb1⟩; have HB1 := Held.mk hb1; clear hb1))
  go_ret
  exact ⟨_, rfl, Own.nil _ _ _, HL.out.trans (HB1.out.mono HL.out.size)⟩
theorem len_put_any {d n s0 s1 s2 s3 s4 s5 s6 s7 k c f v t : Int} (hg : goodE [d, n, s0, s1, s2, s3, s4, s5, s6, s7, k, c, f, v, t] = true) (h : (decZ c).length ≤ 1000 ∧ (decZ f).length ≤ 1000 ∧ (decZ v).length ≤ 1000) : (putE [d, n, s0, s1, s2, s3, s4, s5, s6, s7, k, c, f, v, t]).length ≤ 10000 := by
  simp only [putE, hg, if_true]
  obtain ⟨h1, h2, h3, h4, h5, h6, h7, h8, h9, h10⟩ := good_is hg
  have hk : 0 ≤ k ∧ k ≤ 2 := by omega
  have e := fun x : Int => fun (hx : x ≤ 1099511627776) => enc_len x.toNat (by omega)
  have e1 := e d (by omega)
  have e2 := e n (by omega)
  have e3 := e k (by omega)
  have e4 := e t (by omega)
  have e5 := enc_len (decZ c).length (by omega)
  have e6 := enc_len (decZ f).length (by omega)
  have e7 := enc_len (decZ v).length (by omega)
  have hs := fun i => (getD_le h5 i).2
  have u0 := e s0 (hs 0)
  have u1 := e s1 (hs 1)
  have u2 := e s2 (hs 2)
  have u3 := e s3 (hs 3)
  have u4 := e s4 (hs 4)
  have u5 := e s5 (hs 5)
  have u6 := e s6 (hs 6)
  have u7 := e s7 (hs 7)
  simp only [putL, lenE, List.flatMap_cons, List.flatMap_nil, List.length_append, List.length_nil]
  omega
theorem ownPut : OwnOK Try.prog ofns cPut := by
  intro w vs xs ha hp
  obtain ⟨v, x, rfl, rfl, ⟨hl, rfl, hg⟩⟩ := open1 ha
  obtain ⟨a0, a1, a2, a3, a4, a5, a6, a7, a8, a9, a10, a11, a12, a13, a14, rfl⟩ := len15 hl
  have hp : (decZ a11).length ≤ 1000 ∧ (decZ a12).length ≤ 1000 ∧ (decZ a13).length ≤ 1000 := hp
  cases hgd : goodE [a0, a1, a2, a3, a4, a5, a6, a7, a8, a9, a10, a11, a12, a13, a14]
  · refine .inl ⟨Try.f10, _, by kernel_rfl, by kernel_rfl, rfl, (oput_bad hgd hp hg w).mono ?_⟩
    rintro e w' ⟨r, rfl, ho, hb⟩
    have e0 : putE [a0, a1, a2, a3, a4, a5, a6, a7, a8, a9, a10, a11, a12, a13, a14] = [] := by simp only [putE, hgd, Bool.false_eq_true, if_false]
    refine ⟨r, rfl, [], ?_, Nat.zero_le _, ho, hb⟩
    show codZ (putE _) = _
    rw [e0]
  · refine .inl ⟨Try.f10, _, by kernel_rfl, by kernel_rfl, rfl, (oput_any hgd hp hg w).mono ?_⟩
    rintro e w' ⟨r, rfl, ho, hb⟩
    have hlen := len_put_any hgd hp
    exact ⟨r, rfl, _, rfl, by unfold maxLen; omega, ho, hb⟩
end Go.Proofs.Ytbhflfdlkiihgaa
