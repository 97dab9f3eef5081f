/- Walks of chacha: a block. No condition. -/
import Derived.Test.YtokndemdmkaofaaCha3
namespace Go.Bx
open Go Go.RowKit
def putAll : Array Value → Nat → List Value → Array Value
  | z, _, [] => z
  | z, o, v :: vs => putAll (z.setIfInBounds o v) (o + 1) vs
theorem putAll_list : ∀ (vs : List Value) (z : Array Value) (o : Nat), o + vs.length ≤ z.size → (putAll z o vs).toList = z.toList.take o ++ vs ++ z.toList.drop (o + vs.length)
  | [], z, o, _ => by simp [putAll]
  | v :: vs, z, o, h => by
    simp only [List.length_cons] at h
    rw [putAll, putAll_list vs _ (o + 1) (by rw [Array.size_setIfInBounds]; omega), Array.toList_setIfInBounds]
    have e : z.toList.set o v = z.toList.take o ++ v :: z.toList.drop (o + 1) := List.set_eq_take_append_cons_drop.trans (by rw [if_pos (by simp; omega)])
    have hl : (z.toList.take o).length = o := by rw [List.length_take, Array.length_toList]; omega
    rw [e, List.take_append, List.drop_append, hl]
    have h1 : List.take (o + 1 - o) (v :: z.toList.drop (o + 1)) = [v] := by rw [show o + 1 - o = 1 by omega]; rfl
    have h2 : List.drop (o + 1 + vs.length) (z.toList.take o) = [] := List.drop_eq_nil_iff.2 (by omega)
    have h3 : List.drop (o + 1 + vs.length - o) (v :: z.toList.drop (o + 1)) = z.toList.drop (o + (vs.length + 1)) := by rw [show o + 1 + vs.length - o = vs.length + 1 by omega, List.drop_succ_cons, List.drop_drop]; congr 1; omega
    rw [h1, h2, h3, List.take_take, Nat.min_eq_right (by omega)]
    simp [List.length_cons]
theorem heap_setCells_row (g : Nat) (t : TypeId) : ∀ (vs : List Value) (o : Nat) (w : World) (z : Array Value), w.heap[g]? = some (.cells z t (0, 0)) → (w.setCells g o vs).heap[g]? = some (.cells (putAll z o vs) t (0, 0))
  | [], _, _, _, h => h
  | v :: vs, o, w, z, h => heap_setCells_row g t vs (o + 1) (w.setCell ⟨g, o, none⟩ v) (z.setIfInBounds o v) (heap_setCell_same w g o z t v h)
/-- The store of a whole box, and what the box is then. -/
theorem wpList_storeR {P : Program} {ops : Array Oper} {rest : List Oper} {op : Oper} {a : Act} {w : World} {Q : Exit → Act → World → Prop} (hgd : Region.wanted op (yielded ops a.tmps) = true) (hdst : op.dst = none) {ty : TypeId} {x y : Operand} (ho : op.op = .store ty x y)
    {g : Nat} {z : Array Value} {cs : List Value} {t : TypeId} (hg : w.heap[g]? = some (.cells z t (0, 0))) (hz : z.size = cs.length) (hx : a.eval x = .pointer (some ⟨g, 0, none⟩)) (hy : a.eval y = .agg cs.toArray)
    (hi : (P.info? ty).map (·.size) = some cs.length) (h1 : ∀ u ∈ cs, u.oneCell' = true)
    (h : ∀ w', w'.heap[g]? = some (.cells cs.toArray t (0, 0)) → Fr (· = g) w w' → w'.heap.size = w.heap.size → wpList P ops Q rest a w') : wpList P ops Q (op :: rest) a w :=
  wpList_wanted hgd fun _ hK => by
    have ht : w.there g 0 cs.length := by have := there_of hg; rwa [hz] at this
    refine wp_store_mid ty x y ho g 0 cs.toArray hx hy (by simpa using ht) (by simpa using hi) (all_oneCell_toArray h1) (hK _ _ ?_)
    rw [hdst]
    refine h _ ?_ (Fr.setCells _ _ _ _ rfl) (heap_setCells _ _ _ _).2.2.2.1
    have := heap_setCells_row g t cs 0 w z hg
    rw [show putAll z 0 cs = cs.toArray from by
      apply Array.toList_inj.1
      rw [putAll_list cs z 0 (by omega)]
      simp [List.drop_eq_nil_iff.2 (show z.toList.length ≤ cs.length by simp; omega)]] at this
    exact this
theorem mixL_len (L : List Nat) (a b c d : Nat) : (mixL L a b c d).length = L.length := by simp [mixL]
theorem getD_ok {L : List Nat} (h : ∀ x ∈ L, B32 x) (i : Nat) : B32 (L.getD i 0) := by
  rw [List.getD_eq_getElem?_getD]
  cases hx : L[i]? with
  | none => show 0 < 4294967296; decide
  | some x => exact h x (List.mem_of_getElem? hx)
theorem mixL_ok {L : List Nat} (h : ∀ x ∈ L, B32 x) (a b c d : Nat) : ∀ x ∈ mixL L a b c d, B32 x := by
  have q := qr_ok (getD_ok h a) (getD_ok h b) (getD_ok h c) (getD_ok h d)
  intro x hx
  unfold mixL at hx
  simp only at hx
  rcases List.mem_or_eq_of_mem_set hx with hx | rfl
  · rcases List.mem_or_eq_of_mem_set hx with hx | rfl
    · rcases List.mem_or_eq_of_mem_set hx with hx | rfl
      · rcases List.mem_or_eq_of_mem_set hx with hx | rfl
        · exact h x hx
        · exact q.a
      · exact q.b
    · exact q.c
  · exact q.d
def colM (L : List Nat) (k : Nat) : List Nat := (List.range k).foldl (fun L i => mixL L i (4 + i) (8 + i) (12 + i)) L
def diagM (L : List Nat) (k : Nat) : List Nat := (List.range k).foldl (fun L i => mixL L i (4 + (i + 1) % 4) (8 + (i + 2) % 4) (12 + (i + 3) % 4)) L
theorem colM_succ (L : List Nat) (k : Nat) : colM L (k + 1) = mixL (colM L k) k (4 + k) (8 + k) (12 + k) := by unfold colM; rw [List.range_succ, List.foldl_append]; rfl
theorem diagM_succ (L : List Nat) (k : Nat) : diagM L (k + 1) = mixL (diagM L k) k (4 + (k + 1) % 4) (8 + (k + 2) % 4) (12 + (k + 3) % 4) := by unfold diagM; rw [List.range_succ, List.foldl_append]; rfl
def turnsM (L : List Nat) : Nat → List Nat
  | 0 => L
  | r + 1 => diagM (colM (turnsM L r) 4) 4
structure S16 (L : List Nat) : Prop where
  len : L.length = 16
  ok : ∀ x ∈ L, B32 x
theorem S16.mix {L : List Nat} (h : S16 L) (a b c d : Nat) : S16 (mixL L a b c d) := ⟨by rw [mixL_len]; exact h.len, mixL_ok h.ok a b c d⟩
theorem S16.col {L : List Nat} (h : S16 L) : ∀ k, S16 (colM L k)
  | 0 => h
  | k + 1 => by rw [colM_succ]; exact (h.col k).mix _ _ _ _
theorem S16.diag {L : List Nat} (h : S16 L) : ∀ k, S16 (diagM L k)
  | 0 => h
  | k + 1 => by rw [diagM_succ]; exact (h.diag k).mix _ _ _ _
theorem S16.turns {L : List Nat} (h : S16 L) : ∀ r, S16 (turnsM L r)
  | 0 => h
  | r + 1 => ((h.turns r).col 4).diag 4
/-- The bytes of a block, word by word. -/
def blockB (F L : List Nat) : Nat → List UInt8
  | 0 => []
  | k + 1 => blockB F L k ++ litB (add32 (L.getD k 0) (F.getD k 0)) 4
theorem blockB_len (F L : List Nat) : ∀ k, (blockB F L k).length = 4 * k
  | 0 => rfl
  | k + 1 => by rw [blockB, List.length_append, litB_len, blockB_len F L k]; omega
def blockL (key : List UInt8) (count : Nat) (nonce : List UInt8) : List UInt8 := blockB (stateL key count nonce) (turnsM (stateL key count nonce) 10) 16
theorem blockL_len (key : List UInt8) (count : Nat) (nonce : List UInt8) : (blockL key count nonce).length = 64 := blockB_len _ _ 16
theorem blk_step (F T : List Nat) (k v n : Nat) (hk : k < 16) (hv : v = add32 (T.getD k 0) (F.getD k 0)) (hn : n = 4) :
    splice (bvs (blockB F T k ++ List.replicate (64 - 4 * k) 0)) (4 * k) ((bvs (litB v (Go.Proofs.Ytokndemdmkaofaa.held8 4))).take (Nat.min n (64 - 4 * k))) = bvs (blockB F T (k + 1) ++ List.replicate (64 - 4 * (k + 1)) 0) := by
  subst hn
  have h4 : Go.Proofs.Ytokndemdmkaofaa.held8 4 = 4 := by decide
  have hm : Nat.min 4 (64 - 4 * k) = 4 := Nat.min_eq_left (by omega)
  rw [h4, hm, List.take_of_length_le (by rw [bvs_length, litB_len]; exact Nat.le_refl _)]
  have e1 : bvs (blockB F T k ++ List.replicate (64 - 4 * k) 0) = bvs (blockB F T k) ++ bvs (List.replicate (64 - 4 * k) 0) := bvs_append _ _
  have l1 : (bvs (blockB F T k)).length = 4 * k := by rw [bvs_length, blockB_len]
  rw [e1, splice, bvs_length, litB_len, List.take_append, List.drop_append, l1]
  have t1 : (bvs (blockB F T k)).take (4 * k) = bvs (blockB F T k) := List.take_of_length_le (by omega)
  have t2 : (bvs (blockB F T k)).drop (4 * k + 4) = [] := List.drop_eq_nil_iff.2 (by omega)
  have t3 : (bvs (List.replicate (64 - 4 * k) (0 : UInt8))).take (4 * k - 4 * k) = [] := by rw [Nat.sub_self]; rfl
  have t4 : (bvs (List.replicate (64 - 4 * k) (0 : UInt8))).drop (4 * k + 4 - 4 * k) = bvs (List.replicate (64 - 4 * (k + 1)) 0) := by
    rw [show 4 * k + 4 - 4 * k = 4 by omega]
    simp only [bvs, List.map_replicate, List.drop_replicate]
    congr 1
  rw [t1, t2, t3, t4, blockB, hv]
  simp only [List.append_nil, List.nil_append, bvs_append, List.append_assoc]
end Go.Bx
namespace Go.Proofs.Ytokndemdmkaofaa
open Go.RowKit Go.Bx

theorem nmLittle : (Try.f39.name == "runtime.NumGoroutine") = false := by kernel_rfl
set_option maxHeartbeats 4000000 in
theorem block_any (key nonce : List UInt8) (count : Nat) (hk : key.length = 32) (hn : nonce.length = 12) (hc : B32 count) (w : World) :
    Calls Try.prog 18 #[.agg (bvs key).toArray, .int .u32 (count : Int), .agg (bvs nonce).toArray] w fun e w' => e = .returned (.agg (bvs (blockL key count nonce)).toArray) ∧ Below w.heap.size w w' := by
  obtain ⟨ci, hci⟩ : ∃ ci : Int, ci = (count : Int) := ⟨_, rfl⟩
  rw [← hci]
  obtain ⟨F, hF⟩ : ∃ F, F = stateL key count nonce := ⟨_, rfl⟩
  have hS : S16 F := by rw [hF]; exact ⟨stateL_len _ _ _, stateL_ok _ _ _ hc⟩
  have HS := Held.mk hS
  have HC := Held.mk hci
  have HK := Held.mk hk
  have HN := Held.mk hn
  have HF := Held.mk hF
  have key0 : ∃ W, Held (W = ((w.alloc (.cells (bvs key).toArray 33)).alloc (.cells (bvs nonce).toArray 34)).alloc (.cells #[.int .u8 0, .int .u8 0, .int .u8 0, .int .u8 0, .int .u8 0, .int .u8 0, .int .u8 0, .int .u8 0, .int .u8 0, .int .u8 0, .int .u8 0, .int .u8 0, .int .u8 0, .int .u8 0, .int .u8 0, .int .u8 0, .int .u8 0, .int .u8 0, .int .u8 0, .int .u8 0, .int .u8 0, .int .u8 0, .int .u8 0, .int .u8 0, .int .u8 0, .int .u8 0, .int .u8 0, .int .u8 0, .int .u8 0, .int .u8 0, .int .u8 0, .int .u8 0, .int .u8 0, .int .u8 0, .int .u8 0, .int .u8 0, .int .u8 0, .int .u8 0, .int .u8 0, .int .u8 0, .int .u8 0, .int .u8 0, .int .u8 0, .int .u8 0, .int .u8 0, .int .u8 0, .int .u8 0, .int .u8 0, .int .u8 0, .int .u8 0, .int .u8 0, .int .u8 0, .int .u8 0, .int .u8 0, .int .u8 0, .int .u8 0, .int .u8 0, .int .u8 0, .int .u8 0, .int .u8 0, .int .u8 0, .int .u8 0, .int .u8 0, .int .u8 0] 37)) ∧
      Held (W.heap[w.heap.size]? = some (.cells (bvs key).toArray 33 (0, 0))) ∧ Held (W.heap[w.heap.size + 1]? = some (.cells (bvs nonce).toArray 34 (0, 0))) ∧ Held (W.heap[w.heap.size + 1 + 1]? = some (.cells (bvs (List.replicate 64 0)).toArray 37 (0, 0))) ∧ Held (Below w.heap.size w W) ∧ W.heap.size = w.heap.size + 3 :=
    ⟨_, ⟨rfl⟩, ⟨laid1 (laid1 (laid0 _ _) _) _⟩, ⟨laid1 (laidN _ (by simp) rfl) _⟩, ⟨by rw [show (bvs (List.replicate 64 0)).toArray = #[.int .u8 0, .int .u8 0, .int .u8 0, .int .u8 0, .int .u8 0, .int .u8 0, .int .u8 0, .int .u8 0, .int .u8 0, .int .u8 0, .int .u8 0, .int .u8 0, .int .u8 0, .int .u8 0, .int .u8 0, .int .u8 0, .int .u8 0, .int .u8 0, .int .u8 0, .int .u8 0, .int .u8 0, .int .u8 0, .int .u8 0, .int .u8 0, .int .u8 0, .int .u8 0, .int .u8 0, .int .u8 0, .int .u8 0, .int .u8 0, .int .u8 0, .int .u8 0, .int .u8 0, .int .u8 0, .int .u8 0, .int .u8 0, .int .u8 0, .int .u8 0, .int .u8 0, .int .u8 0, .int .u8 0, .int .u8 0, .int .u8 0, .int .u8 0, .int .u8 0, .int .u8 0, .int .u8 0, .int .u8 0, .int .u8 0, .int .u8 0, .int .u8 0, .int .u8 0, .int .u8 0, .int .u8 0, .int .u8 0, .int .u8 0, .int .u8 0, .int .u8 0, .int .u8 0, .int .u8 0, .int .u8 0, .int .u8 0, .int .u8 0, .int .u8 0] from rfl]; exact laidN _ (by simp) rfl⟩, ⟨(((Below.refl _ _).alloc (Nat.le_refl _) _).alloc (by simp) _).alloc (by simp; omega) _⟩, by simp⟩
  obtain ⟨W, hW, GK, GN, GR, HB, hz⟩ := key0
  have IK : Held ((Try.prog.info? 33).map (·.size) = some (bvs key).length) := ⟨by rw [bvs_length, hk]; kernel_rfl⟩
  have IN : Held ((Try.prog.info? 34).map (·.size) = some (bvs nonce).length) := ⟨by rw [bvs_length, hn]; kernel_rfl⟩
  have I16 : Held ((Try.prog.info? 57).map (·.size) = some (F.map fun n : Nat => Value.int .u32 (n : Int)).length) := ⟨by rw [List.length_map, hS.len]; kernel_rfl⟩
  have Z16 : Held (16 = (F.map fun n : Nat => Value.int .u32 (n : Int)).length) := ⟨by rw [List.length_map, hS.len]⟩
  have O16 : Held (∀ u ∈ F.map fun n : Nat => Value.int .u32 (n : Int), u.oneCell' = true) := ⟨by intro u hu; obtain ⟨_, _, rfl⟩ := List.mem_map.1 hu; rfl⟩
  clear hci hk hn hF hS hc
  go_enter Try.func18, Try.ntmps18
  go_wp2_with (first
    | rw [← hW.out]
    | (refine wpList_loadB rfl rfl GK.out rfl Try.underlying33 rfl IK.out ?_)
    | (refine wpList_loadB rfl rfl GN.out rfl Try.underlying34 rfl IN.out ?_)
    | (refine wpList_loadB rfl rfl hg2 rfl Try.underlying57 rfl I16.out ?_)
    | (have zz := hg2; clear zz; refine wpList_storeR rfl rfl rfl (laidN _ hs2 (w := w2) rfl) Z16.out rfl rfl I16.out O16.out ?_; intro w3 hg3 hf3 hs3)
    | (refine wpList_storeR rfl rfl rfl (laid0 w1 _) Z16.out rfl rfl I16.out O16.out ?_; intro w2 hg2 hf2 hs2; have hs2 : w2.heap.size = w1.heap.size + 1 := hs2.trans (by simp))
    | (rw [HC.out]; go_at_call 37; refine (state_any key nonce count HK.out HN.out _).mono ?_; rintro e w1 ⟨rfl, hb1⟩; rw [← HF.out]; have B1 := Held.mk hb1; clear hb1))
  have hz1 := B1.out.size
  have hs3' : w3.heap.size = w1.heap.size + 2 := by rw [hs3]; simp [hs2]
  have R7 : Held (Row w1.heap.size F w3) := ⟨by
    show w3.heap[w1.heap.size]? = _
    rw [hf3.block _ (by simp [hs2]; omega) (by omega), laid1 hg2]; rfl⟩
  have R8 : Held (Row (w1.heap.size + 1) F w3) := ⟨hg3⟩
  have hold : ∀ k, k < w1.heap.size → w3.heap[k]? = w1.heap[k]? := fun k hk => by
    rw [hf3.block _ (by simp [hs2]; omega) (by omega), heap_alloc_old _ _ (by omega), hf2.block _ (by simp; omega) (by omega), heap_alloc_old _ _ hk]
  have GR3 : Held (w3.heap[w.heap.size + 1 + 1]? = some (.cells (bvs (List.replicate 64 0)).toArray 37 (0, 0))) := ⟨by rw [hold _ (by omega), B1.out.block _ (by omega)]; exact GR.out⟩
  have B3 : Held (Below w.heap.size w w3) := ⟨by
    have h1 : Below w.heap.size w w1 := HB.out.trans (B1.out.mono (by omega))
    refine h1.trans ⟨?_, ?_, ?_, by omega, fun k hk => hold k (by omega)⟩
    · rw [hf3.os]; exact hf2.os
    · rw [hf3.tape]; exact hf2.tape
    · rw [hf3.output]; exact hf2.output⟩
  have HS3 := Held.mk hs3'
  have hlow : w.heap.size + 3 ≤ w1.heap.size := by omega
  obtain ⟨h7, hh7⟩ : ∃ h7, h7 = w1.heap.size := ⟨_, rfl⟩
  rw [← hh7] at R7 R8 HS3 hlow ⊢
  clear hg2 hf2 hs2 hg3 hf3 hs3 hs3' hold B1 HB GK GN GR hW hz hz1 hh7
  go_loopw [18] (fun i wr => ∃ r : Nat, i = .int .i64 r ∧ r ≤ 10 ∧ Held (Row (h7 + 1) (turnsM F r) wr) ∧ Held (Fr (· = h7 + 1) w3 wr)) (fun i _ => 10 - (intOf i).toNat)
  case atStart => exact ⟨0, rfl, by omega, R8, ⟨Fr.refl _ _⟩⟩
  case round =>
    obtain ⟨r, rfl, hr, hR, hFr⟩ := hrel
    by_cases hlt : r < 10
    · have hSr := Held.mk (HS.out.turns r)
      have hrd : decide ((r : Int) < 10) = true := decide_eq_true (by omega)
      go_wp2
      try rw [hrd]
      clear hrd
      go_loopw [20] (fun i wr => ∃ k : Nat, i = .int .i64 k ∧ k ≤ 4 ∧ Held (Row (h7 + 1) (colM (turnsM F r) k) wr) ∧ Held (Fr (· = h7 + 1) w3 wr)) (fun i _ => 4 - (intOf i).toNat)
      case atStart => exact ⟨0, rfl, by omega, hR, hFr⟩
      case round =>
        clear hR hFr
        obtain ⟨k, rfl, hk, hR, hFr⟩ := hrel
        by_cases hlt2 : k < 4
        · have hSk := Held.mk (hSr.out.col k)
          have h4 : k = 0 ∨ k = 1 ∨ k = 2 ∨ k = 3 := by omega
          clear hlt2 hk
          rcases h4 with rfl | rfl | rfl | rfl
          · go_wp2_with (go_at_call 38; refine (mix_any (h7 + 1) _ hSk.out.len hSk.out.ok 0 4 8 12 (by omega) (by omega) (by omega) (by omega) _ hR.out).mono ?_; rintro e w4 ⟨⟨_, rfl⟩, hR4, hf4⟩; have HR4 := Held.mk hR4; have HF4 := Held.mk (hFr.out.trans hf4); clear hR4 hf4)
            go_roundw
            case rel => exact ⟨1, rfl, by omega, ⟨by rw [colM_succ]; exact HR4.out⟩, HF4⟩
            case measure => simp [intOf]
          · go_wp2_with (go_at_call 38; refine (mix_any (h7 + 1) _ hSk.out.len hSk.out.ok 1 5 9 13 (by omega) (by omega) (by omega) (by omega) _ hR.out).mono ?_; rintro e w4 ⟨⟨_, rfl⟩, hR4, hf4⟩; have HR4 := Held.mk hR4; have HF4 := Held.mk (hFr.out.trans hf4); clear hR4 hf4)
            go_roundw
            case rel => exact ⟨2, rfl, by omega, ⟨by rw [colM_succ]; exact HR4.out⟩, HF4⟩
            case measure => simp [intOf]
          · go_wp2_with (go_at_call 38; refine (mix_any (h7 + 1) _ hSk.out.len hSk.out.ok 2 6 10 14 (by omega) (by omega) (by omega) (by omega) _ hR.out).mono ?_; rintro e w4 ⟨⟨_, rfl⟩, hR4, hf4⟩; have HR4 := Held.mk hR4; have HF4 := Held.mk (hFr.out.trans hf4); clear hR4 hf4)
            go_roundw
            case rel => exact ⟨3, rfl, by omega, ⟨by rw [colM_succ]; exact HR4.out⟩, HF4⟩
            case measure => simp [intOf]
          · go_wp2_with (go_at_call 38; refine (mix_any (h7 + 1) _ hSk.out.len hSk.out.ok 3 7 11 15 (by omega) (by omega) (by omega) (by omega) _ hR.out).mono ?_; rintro e w4 ⟨⟨_, rfl⟩, hR4, hf4⟩; have HR4 := Held.mk hR4; have HF4 := Held.mk (hFr.out.trans hf4); clear hR4 hf4)
            go_roundw
            case rel => exact ⟨4, rfl, by omega, ⟨by rw [colM_succ]; exact HR4.out⟩, HF4⟩
            case measure => simp [intOf]
        · obtain rfl : k = 4 := by omega
          have hSc := Held.mk (hSr.out.col 4)
          go_wp2
          rw [show ((4 : Nat) : Int) = 4 from rfl]
          go_loopw [32] (fun i wr => ∃ k : Nat, i = .int .i64 k ∧ k ≤ 4 ∧ Held (Row (h7 + 1) (diagM (colM (turnsM F r) 4) k) wr) ∧ Held (Fr (· = h7 + 1) w3 wr)) (fun i _ => 4 - (intOf i).toNat)
          case atStart => exact ⟨0, rfl, by omega, hR, hFr⟩
          case round =>
            clear hR hFr hSr
            obtain ⟨k, rfl, hk, hR, hFr⟩ := hrel
            by_cases hlt3 : k < 4
            · have hSk := Held.mk (hSc.out.diag k)
              have h4 : k = 0 ∨ k = 1 ∨ k = 2 ∨ k = 3 := by omega
              clear hlt3 hk
              rcases h4 with rfl | rfl | rfl | rfl
              · go_wp2_with (go_at_call 38; refine (mix_any (h7 + 1) _ hSk.out.len hSk.out.ok 0 5 10 15 (by omega) (by omega) (by omega) (by omega) _ hR.out).mono ?_; rintro e w4 ⟨⟨_, rfl⟩, hR4, hf4⟩; have HR4 := Held.mk hR4; have HF4 := Held.mk (hFr.out.trans hf4); clear hR4 hf4)
                go_roundw
                case rel => exact ⟨1, rfl, by omega, ⟨by rw [diagM_succ]; exact HR4.out⟩, HF4⟩
                case measure => simp [intOf]
              · go_wp2_with (go_at_call 38; refine (mix_any (h7 + 1) _ hSk.out.len hSk.out.ok 1 6 11 12 (by omega) (by omega) (by omega) (by omega) _ hR.out).mono ?_; rintro e w4 ⟨⟨_, rfl⟩, hR4, hf4⟩; have HR4 := Held.mk hR4; have HF4 := Held.mk (hFr.out.trans hf4); clear hR4 hf4)
                go_roundw
                case rel => exact ⟨2, rfl, by omega, ⟨by rw [diagM_succ]; exact HR4.out⟩, HF4⟩
                case measure => simp [intOf]
              · go_wp2_with (go_at_call 38; refine (mix_any (h7 + 1) _ hSk.out.len hSk.out.ok 2 7 8 13 (by omega) (by omega) (by omega) (by omega) _ hR.out).mono ?_; rintro e w4 ⟨⟨_, rfl⟩, hR4, hf4⟩; have HR4 := Held.mk hR4; have HF4 := Held.mk (hFr.out.trans hf4); clear hR4 hf4)
                go_roundw
                case rel => exact ⟨3, rfl, by omega, ⟨by rw [diagM_succ]; exact HR4.out⟩, HF4⟩
                case measure => simp [intOf]
              · go_wp2_with (go_at_call 38; refine (mix_any (h7 + 1) _ hSk.out.len hSk.out.ok 3 4 9 14 (by omega) (by omega) (by omega) (by omega) _ hR.out).mono ?_; rintro e w4 ⟨⟨_, rfl⟩, hR4, hf4⟩; have HR4 := Held.mk hR4; have HF4 := Held.mk (hFr.out.trans hf4); clear hR4 hf4)
                go_roundw
                case rel => exact ⟨4, rfl, by omega, ⟨by rw [diagM_succ]; exact HR4.out⟩, HF4⟩
                case measure => simp [intOf]
            · obtain rfl : k = 4 := by omega
              go_wp2
              go_roundw
              case rel => exact ⟨r + 1, by push_cast; rfl, by omega, hR, hFr⟩
              case measure => simp [intOf]; omega
    · obtain rfl : r = 10 := by omega
      go_wp2
      rw [show ((10 : Nat) : Int) = 10 from rfl]
      obtain ⟨T, hT⟩ : ∃ T, T = turnsM F 10 := ⟨_, rfl⟩
      rw [← hT] at hR
      have hST : S16 T := by rw [hT]; exact HS.out.turns 10
      have hsz6 := hFr.out.size
      have HS3o := HS3.out
      obtain ⟨g, hg⟩ : ∃ g, g = wr.heap.size := ⟨_, rfl⟩
      rw [← hg]
      refine gen_world ?_
      intro W5 HW5
      have hB5 : Below wr.heap.size wr W5 := by rw [HW5.out]; exact (Below.refl _ _).alloc (Nat.le_refl _) _
      have O5 : Held (W5.heap[g]? = some (.cells (bvs (List.replicate 64 0)).toArray 37 (0, 0))) := ⟨by rw [HW5.out, hg]; exact laid0 _ _⟩
      have P8 : Held (Row (h7 + 1) T W5) := ⟨hR.out.fr (Fr.ofBelow hB5 _)⟩
      have P7 : Held (Row h7 F W5) := ⟨by
        show W5.heap[h7]? = _
        rw [hB5.block _ (by omega), hFr.out.block _ (by omega) (by omega)]; exact R7.out⟩
      have hgh : h7 + 2 ≤ g := by omega
      have hW5s : g < W5.heap.size := (Array.getElem?_eq_some_iff.1 O5.out).1
      have BW5 : Held (Below w.heap.size w W5) := ⟨(B3.out.trans (hFr.out.below B3.out.size (fun i hi e => by omega))).trans (hB5.mono (by have := B3.out.size; omega))⟩
      have GR5 : Held (W5.heap[w.heap.size + 1 + 1]? = some (.cells (bvs (List.replicate 64 0)).toArray 37 (0, 0))) := ⟨by rw [hB5.block _ (by omega), hFr.out.block _ (by omega) (by omega)]; exact GR3.out⟩
      have HST := Held.mk hST
      have HT := Held.mk hT
      have Hw : Held (w.heap.size + 3 ≤ g) := ⟨by omega⟩
      clear HW5 hB5 hR hFr hsz6 HS3o hg hST hT hlt hr R7 R8 B3 HS3 GR3
      go_loopw [51] (fun i wr => ∃ k : Nat, i = .int .i64 k ∧ k ≤ 16 ∧ Held (wr.heap[g]? = some (.cells (bvs (blockB F T k ++ List.replicate (64 - 4 * k) 0)).toArray 37 (0, 0))) ∧ Held (Fr (· = g) W5 wr)) (fun i _ => 16 - (intOf i).toNat)
      case atStart => exact ⟨0, rfl, by omega, O5, ⟨Fr.refl _ _⟩⟩
      case round =>
        obtain ⟨k, rfl, hk, hO, hF⟩ := hrel
        by_cases hlt : k < 16
        · obtain ⟨i8, hi8, _, hi81, _⟩ := info_parts infoB
          have hsl : ∀ w', (Instr.sliceAt 37 (.pointer (some ⟨g, 0, none⟩)) (some (.int .i64 (4 * (k : Int)))) none none).run Try.prog w' = .ok (.slice (some ⟨g, 4 * k, none⟩) (64 - 4 * k) (64 - 4 * k)) w' := fun w' => slice_arr Try.underlying37 hi8 hi81 (by omega) (by omega) w'
          obtain ⟨s, hs⟩ : ∃ s, T[k]? = some s := ⟨_, List.getElem?_eq_getElem (by rw [HST.out.len]; exact hlt)⟩
          obtain ⟨f, hf⟩ : ∃ f, F[k]? = some f := ⟨_, List.getElem?_eq_getElem (by rw [HS.out.len]; exact hlt)⟩
          have c8 : wr.cell? ⟨h7 + 1, k, none⟩ = some (.int .u32 (s : Int)) := hF.out.cell (p := ⟨h7 + 1, k, none⟩) (by show ¬ h7 + 1 = g; omega) (P8.out.cell hs)
          have c7 : wr.cell? ⟨h7, k, none⟩ = some (.int .u32 (f : Int)) := hF.out.cell (p := ⟨h7, k, none⟩) (by show ¬ h7 = g; omega) (P7.out.cell hf)
          obtain ⟨si, hsi⟩ : ∃ si : Int, si = (s : Int) := ⟨_, rfl⟩
          obtain ⟨fi, hfi⟩ : ∃ fi : Int, fi = (f : Int) := ⟨_, rfl⟩
          rw [← hsi] at c8
          rw [← hfi] at c7
          have hV0 : 0 ≤ (si + fi) % 4294967296 := by omega
          have hV1 : (si + fi) % 4294967296 < 18446744073709551616 := by omega
          have hV : ((si + fi) % 4294967296).toNat = add32 (T.getD k 0) (F.getD k 0) := by
            rw [List.getD_eq_getElem?_getD, List.getD_eq_getElem?_getD, hs, hf, hsi, hfi]
            simp only [Option.getD_some, add32]; omega
          have HV := Held.mk hV
          have hw1 : IntKind.i64.wrap (4 * (k : Int)) = 4 * (k : Int) := IntWalk.i64_in _ (by omega)
          have hw2 : IntKind.u32.wrap (si + fi) = (si + fi) % 4294967296 := by simp [IntKind.wrap, IntKind.bits, IntKind.signed]
          have hw3 : IntKind.u64.wrap ((si + fi) % 4294967296) = (si + fi) % 4294967296 := by rw [IntKind.wrap_u64]; omega
          have hgw : g < wr.heap.size := Nat.lt_of_lt_of_le hW5s hF.out.size
          have hlen : (blockB F T k ++ List.replicate (64 - 4 * k) (0 : UInt8)).length = 64 := by rw [List.length_append, blockB_len, List.length_replicate]; omega
          have hfit : 4 * k + Nat.min 4 (64 - 4 * k) ≤ (bvs (blockB F T k ++ List.replicate (64 - 4 * k) 0)).toArray.size := by
            rw [List.size_toArray, bvs_length, hlen]
            have : Nat.min 4 (64 - 4 * k) ≤ 4 := Nat.min_le_left _ _
            omega
          have hcur : ∀ w', Below wr.heap.size wr.drew w' → w'.heap[g]? = some (.cells (bvs (blockB F T k ++ List.replicate (64 - 4 * k) 0)).toArray 37 (0, 0)) := fun w' hb => by rw [hb.block g hgw]; exact hO.out
          have HCU := Held.mk hcur
          have hszz : (Try.prog.info? 5).map (·.size) = some 1 := by kernel_rfl
          have hfit0 : Fits (List.length ([] : List UInt8) + 8) := ⟨by decide⟩
          have hbo : ∀ u ∈ bvs (litB ((si + fi) % 4294967296).toNat (held8 4)), u.oneCell' = true := bvs_one _
          clear hV hlen hcur hsi hfi hs hf hi8 hi81
          go_wp2
          go_region_law (first
            | (refine step_copy rfl _ _ 28 28 rfl 5 Try.underlying28 hszz rfl (HCU.out _ hb7) rfl HO7.out hbo hfit ?_; intro w8 hg8 hf8)
            | (refine step_calls rfl 39 _ _ rfl Try.func39 nmLittle rfl rfl (little_any _ [] ((si + fi) % 4294967296) hV0 hV1 4 _ (Sl.zero _ _) hfit0) ?_; rintro e w7 ⟨r7, rfl, ho7, hb7⟩; refine ⟨_, rfl, ?_⟩; rw [List.nil_append] at ho7; have HO7 := Held.mk ho7.sl; clear ho7))
          all_goals
            go_wp2
            go_roundw
            case rel =>
              refine ⟨k + 1, by push_cast; rfl, by omega, ⟨?_⟩, ⟨?_⟩⟩
              · rw [hg8]
                refine congrArg (fun l : List Value => some (Obj.cells l.toArray 37 (0, 0))) ?_
                exact blk_step F T k _ _ hlt HV.out (litB_len _ _)
              · exact (hF.out.trans ((Fr.drew _ _).trans (Fr.ofBelow hb7 _))).trans hf8
            case measure => simp [intOf]; omega
        · obtain rfl : k = 16 := by omega
          have e16 : bvs (blockB F T 16 ++ List.replicate (64 - 4 * 16) 0) = bvs (blockL key count nonce) := by
            rw [blockL, ← HF.out, HT.out]; simp
          have hO2 := hO.out
          rw [e16] at hO2
          have hr2 : wr.heap[w.heap.size + 1 + 1]? = some (.cells (bvs (List.replicate 64 0)).toArray 37 (0, 0)) := by
            rw [hF.out.block _ (by have := Hw.out; omega) (by have := Hw.out; omega)]; exact GR5.out
          have hi64 : (Try.prog.info? 37).map (·.size) = some (bvs (blockL key count nonce)).length := by rw [bvs_length, blockL_len]; kernel_rfl
          have hz64 : (bvs (List.replicate 64 (0 : UInt8))).toArray.size = (bvs (blockL key count nonce)).length := by rw [bvs_length, blockL_len]; rfl
          have HO2 := Held.mk hO2
          have HR2 := Held.mk hr2
          have HI2 := Held.mk hi64
          have HZ2 := Held.mk hz64
          clear hO hO2 hr2 hi64 hz64 e16
          go_wp2_with (first | (refine wpList_loadB rfl rfl HO2.out rfl Try.underlying37 rfl HI2.out ?_) | (refine wpList_storeB rfl rfl rfl HR2.out HZ2.out rfl rfl HI2.out (bvs_one _) ?_; intro w9 hr9 ht9 hf9 hs9))
          refine bodyPost_ret_by (results_cell_mid Try.results18 _ _ (w.heap.size + 1 + 1) 0 _ _ rfl hr9 Try.underlying37 rfl HI2.out) rfl ⟨rfl, ?_⟩
          have h1 : Below w.heap.size w wr := BW5.out.trans (hF.out.below BW5.out.size (fun i hi e => by have := Hw.out; omega))
          exact h1.trans (hf9.below h1.size (fun i hi e => by omega))
end Go.Proofs.Ytokndemdmkaofaa
