/- Walks of vec, the fourth part: Put. Conditions: lengths within memory. -/
import Derived.Test.YtbhflfdlkiihgaaVecC
import Derived.Test.YtbhflfdlkiihgaaWire2
namespace Go.Proofs.Ytbhflfdlkiihgaa
open Go.RowKit Go.Bx

def putL (l : List UInt8) (a : List Int) : List UInt8 := l ++ a.flatMap fun x => enc x.toNat
theorem putL_take {a : List Int} {k : Nat} (l : List UInt8) (h : k < a.length) : putL l (a.take k) ++ enc (a.getD k 0).toNat = putL l (a.take (k + 1)) := by
  have e : a.take (k + 1) = a.take k ++ [a.getD k 0] := by rw [List.take_add_one, List.getElem?_eq_getElem h]; simp [h]
  simp [putL, e]
theorem putL_len (l : List UInt8) : ∀ (a : List Int), (∀ x ∈ a, I64 x) → (putL l a).length ≤ l.length + 9 * a.length := by
  have key : ∀ a : List Int, (∀ x ∈ a, I64 x) → (a.flatMap fun x => enc x.toNat).length ≤ 9 * a.length := by
    intro a
    induction a with
    | nil => intro _; simp
    | cons x a ih =>
      intro h
      have h1 := ih fun y hy => h y (List.mem_cons_of_mem _ hy)
      have h2 := enc_len x.toNat (by have := (h x (List.mem_cons_self ..)).hi; omega)
      simp only [List.flatMap_cons, List.length_append, List.length_cons]
      omega
  intro a h
  have := key a h
  simp only [putL, List.length_append]
  omega
structure PutRel (w : World) (l : List UInt8) (a : List Int) (r i : Value) (wr : World) : Prop where
  ex : ∃ (k : Nat) (ra : Option Addr) (rc : Nat), k ≤ 8 ∧ i = .int .i64 k ∧ r = .slice ra (putL l (a.take k)).length rc ∧ Below w.heap.size w wr ∧ Sl wr 1 (.slice ra (putL l (a.take k)).length rc) (putL l (a.take k)).length (bvs (putL l (a.take k))) ∧
    (k = 0 ∨ Own wr w.heap.size 1 (.slice ra (putL l (a.take k)).length rc) (putL l (a.take k)).length (bvs (putL l (a.take k))))
set_option maxHeartbeats 400000 in
theorem put_any (b : Value) (l : List UInt8) (a : List Int) (ha : a.length = 8) (hi : ∀ x ∈ a, I64 x) (w : World) (h : Sl w 1 b l.length (bvs l)) (hn : Fits (l.length + 128)) :
    Calls Try.prog 28 #[b, vv a] w fun e w' => ∃ r, e = .returned r ∧ Own w' w.heap.size 1 r (putL l a).length (bvs (putL l a)) ∧ Below w.heap.size w w' := by
  obtain ⟨ba, bc, rfl⟩ := h.form
  have HS := Held.mk h
  have HI := Held.mk (show (Try.prog.info? 26).map (·.size) = some (a.map (Value.int .i64)).length by rw [List.length_map, ha]; kernel_rfl)
  have H1 := Held.mk ha
  have H2 := Held.mk hi
  clear ha hi h
  have key : ∃ W, Held (W = w.alloc (.cells (a.map (Value.int .i64)).toArray 26)) ∧ Held (W.heap[w.heap.size]? = some (.cells (a.map (Value.int .i64)).toArray 26 (0, 0))) ∧ Held (Below w.heap.size w W) :=
    ⟨_, ⟨rfl⟩, ⟨laid0 _ _⟩, ⟨(Below.refl _ _).alloc (Nat.le_refl _) _⟩⟩
  obtain ⟨W, hW, HA, HL⟩ := key
  go_enter Try.func28, Try.ntmps28
  go_wp2_with (first
    | rw [← hW.out]
    | (refine wpList_loadB rfl rfl HA.out rfl Try.underlying26 rfl HI.out ?_))
  go_loopw [0, 8] (fun r i wr => PutRel w l a r i wr) (fun _ i _ => 8 - (intOf i).toNat)
  case atStart =>
    have e : putL l (a.take 0) = l := by simp [putL]
    exact ⟨⟨0, ba, bc, by omega, rfl, by rw [e], HL.out, by rw [e]; exact HS.out.grow HL.out, .inl rfl⟩⟩
  case round =>
    obtain ⟨k, ra, rc, hk, rfl, rfl, hbel, hsl, hor⟩ := hrel.ex
    have HB := Held.mk hbel
    have HSl := Held.mk hsl
    have HO := Held.mk hor
    clear hrel hbel hsl hor
    by_cases hlt : k < 8
    · have c1 : a[k]? = some (a.getD k 0) := by simp [H1.out, hlt]
      have hx64 : I64 (a.getD k 0) := H2.out _ (by rw [List.getD_eq_getElem?_getD, c1]; exact List.mem_of_getElem? c1)
      have HP := Held.mk (putL_take (l := l) (show k < a.length by rw [H1.out]; exact hlt))
      have hfit : Fits ((putL l (a.take k)).length + 16) := hn.le (by
        have := putL_len l (a.take k) (fun x hx => H2.out x (List.mem_of_mem_take hx))
        rw [List.length_take, H1.out] at this
        omega)
      generalize hx : a.getD k 0 = x at c1 HP hx64
      have hix := indexV hlt c1
      generalize hP : putL l (a.take k) = P at *
      go_wp2_with (go_at_call 27; refine (num_any _ _ _ _ HSl.out hfit hx64).mono ?_; rintro e w2 ⟨r2, rfl, ho2, hb2⟩; have HO2 := Held.mk ho2; clear ho2)
      go_roundw
      case rel =>
        rw [HP.out] at HO2
        obtain ⟨sa, sc, rfl⟩ := HO2.out.form
        exact ⟨⟨k + 1, sa, sc, by omega, by push_cast; rfl, rfl, HB.out.trans (hb2.mono HB.out.size), HO2.out.sl, .inr (HO2.out.lower HB.out.size)⟩⟩
      case measure => simp [intOf]; omega
    · obtain rfl : k = 8 := by omega
      have e8 : a.take 8 = a := List.take_of_length_le (by rw [H1.out]; exact Nat.le_refl _)
      go_wp2
      go_ret
      rcases HO.out with h0 | ho
      · omega
      · refine ⟨.slice ra (putL l (a.take 8)).length rc, rfl, ?_, HB.out⟩
        rw [e8] at ho ⊢
        exact ho
/-- The reader's bytes, and whether it is bad, behind k numbers. -/
def rl (l : List UInt8) : Nat → List UInt8
  | 0 => l
  | k + 1 => numL most (rl l k)
def rb (l : List UInt8) (bad : Bool) : Nat → Bool
  | 0 => bad
  | k + 1 => numB most (rl l k) (rb l bad k)
def getW (l : List UInt8) (k : Nat) : List Int := (List.range 8).map fun j => if j < k then numV most (rl l j) else 0
def getV (l : List UInt8) (bad : Bool) : List Int := if rb l bad 8 then [0, 0, 0, 0, 0, 0, 0, 0] else getW l 8
theorem getW_length (l : List UInt8) (k : Nat) : (getW l k).length = 8 := by simp [getW]
theorem getW_set (l : List UInt8) (k : Nat) : (getW l k).set k (numV most (rl l k)) = getW l (k + 1) := by
  refine List.ext_getElem (by simp [getW]) fun i h1 h2 => ?_
  simp only [getW, List.length_map, List.length_range] at h2
  rw [List.getElem_set]
  by_cases h : k = i
  · subst h; simp [getW]
  · rw [if_neg h]
    simp only [getW, List.getElem_map, List.getElem_range]
    by_cases h3 : i < k
    · rw [if_pos h3, if_pos (by omega)]
    · rw [if_neg h3, if_neg (by omega)]
theorem rl_len (l : List UInt8) : ∀ k, (rl l k).length ≤ l.length
  | 0 => Nat.le_refl _
  | k + 1 => Nat.le_trans (numL_len _ _) (rl_len l k)
structure GetRel (w : World) (g q : Nat) (l : List UInt8) (bad : Bool) (i : Value) (wr : World) : Prop where
  ex : ∃ (k : Nat) (z : Array Value), k ≤ 8 ∧ i = .int .i64 k ∧ wr.heap[w.heap.size]? = some (.cells z 26 (0, 0)) ∧ z.size = 8 ∧
    wr.heap[w.heap.size + 1]? = some (.cells ((getW l k).map (Value.int .i64)).toArray 26 (0, 0)) ∧ Rdr wr g q (rl l k) (rb l bad k) ∧ Fr (· = g) w wr ∧ w.heap.size + 2 ≤ wr.heap.size
set_option maxHeartbeats 400000 in
theorem get_any (g q : Nat) (l : List UInt8) (bad : Bool) (w : World) (h : Rdr w g q l bad) :
    Calls Try.prog 24 #[.pointer (some ⟨g, 0, none⟩)] w fun e w' => e = .returned (vv (getV l bad)) ∧ Rdr w' g q (rl l 8) (rb l bad 8) ∧ Fr (· = g) w w' := by
  have HR := Held.mk h
  have hg := h.lt
  clear h
  go_enter Try.func24, Try.ntmps24
  go_wp2
  go_loopw [5] (fun i wr => GetRel w g q l bad i wr) (fun i _ => 8 - (intOf i).toNat)
  case atStart =>
    have hb : Below w.heap.size w ((w.alloc (.cells #[.int .i64 0, .int .i64 0, .int .i64 0, .int .i64 0, .int .i64 0, .int .i64 0, .int .i64 0, .int .i64 0] 26)).alloc (.cells #[.int .i64 0, .int .i64 0, .int .i64 0, .int .i64 0, .int .i64 0, .int .i64 0, .int .i64 0, .int .i64 0] 26)) := ((Below.refl _ _).alloc (Nat.le_refl _) _).alloc (by simp) _
    exact ⟨⟨0, _, by omega, rfl, laid1 (laid0 _ _) _, rfl, laidN _ (by simp) rfl, HR.out.grow hb, Fr.ofBelow hb _, by simp⟩⟩
  case round =>
    obtain ⟨k, z, hk, rfl, g0, hz, g1, hr, hf, hs⟩ := hrel.ex
    have G0 := Held.mk g0
    have G1 := Held.mk g1
    have HR2 := Held.mk hr
    have HF := Held.mk hf
    clear g0 g1 hr hf hrel
    by_cases hlt : k < 8
    · go_wp2_with (go_at_call 23; refine (rnum_any g q _ _ most _ HR2.out).mono ?_; rintro e w2 ⟨rfl, hr2, hf2⟩; have HR3 := Held.mk hr2; have HF2 := Held.mk hf2; clear hr2 hf2; have hne : ¬ (w.heap.size + 1 = g) := (by omega); have G2 := Held.mk ((HF2.out.block (w.heap.size + 1) (by omega) hne).trans G1.out); have c2 : w2.cell? ⟨w.heap.size + 1, k, none⟩ = some (.int .i64 0) := (cell_of_row _ _ _ _ _ _ G2.out).trans (by simp [getW, hlt]); have f2 : w2.frozen? ⟨w.heap.size + 1, k, none⟩ = false := frozen_of_row _ _ _ _ _ G2.out)
      go_roundw
      case rel =>
        refine ⟨⟨k + 1, z, by omega, by push_cast; rfl, ?_, hz, ?_, ?_, ?_, ?_⟩⟩
        · exact (heap_setCell_other _ _ _ _ (by simp)).trans ((HF2.out.block _ (by omega) (by omega)).trans G0.out)
        · refine (heap_setCell_same _ _ _ _ _ _ G2.out).trans ?_
          rw [← getW_set]
          simp [List.map_set]
        · exact HR3.out.fr (Fr.setCell (S := (· = w.heap.size + 1)) w2 rfl _) (by omega) (fun hp => by have := HR.out.blk (Nat.lt_of_lt_of_le hp (rl_len l (k + 1))); omega)
        · exact (HF.out.trans HF2.out).trans' (Fr.setCell (S := (· = w.heap.size + 1)) w2 rfl _) (fun i hi e => by omega)
        · have := HF2.out.size
          simp [World.setCell]; omega
      case measure => simp [intOf]; omega
    · obtain rfl : k = 8 := by omega
      obtain ⟨v0, hv0⟩ : ∃ v0 : List Int, v0 = [0, 0, 0, 0, 0, 0, 0, 0] := ⟨_, rfl⟩
      obtain ⟨bd, hbd⟩ : ∃ bd, rb l bad 8 = bd := ⟨_, rfl⟩
      rw [hbd] at HR2
      have HI := Held.mk (show (Try.prog.info? 26).map (·.size) = some ((getW l 8).map (Value.int .i64)).length by rw [List.length_map, getW_length]; kernel_rfl)
      have HI0 := Held.mk (show (Try.prog.info? 26).map (·.size) = some ([(0 : Int), 0, 0, 0, 0, 0, 0, 0].map (Value.int .i64)).length by kernel_rfl)
      have hone : ∀ u ∈ (getW l 8).map (Value.int .i64), u.oneCell' = true := by intro u hu; obtain ⟨_, _, rfl⟩ := List.mem_map.1 hu; rfl
      have hone0 : ∀ u ∈ [(0 : Int), 0, 0, 0, 0, 0, 0, 0].map (Value.int .i64), u.oneCell' = true := by intro u hu; obtain ⟨_, _, rfl⟩ := List.mem_map.1 hu; rfl
      have O1 := Held.mk hone
      have O0 := Held.mk hone0
      have HZ := Held.mk (show z.size = ((getW l 8).map (Value.int .i64)).length by rw [List.length_map, getW_length]; exact hz)
      clear hone hone0
      cases bd
      · go_wp2_with (first
          | (go_at_call 48; refine (rbad_any g q _ _ _ HR2.out).mono ?_; rintro e w2 ⟨rfl, rfl⟩)
          | (refine wpList_loadB rfl rfl G1.out rfl Try.underlying26 rfl HI.out ?_)
          | (refine wpList_storeB rfl rfl rfl G0.out HZ.out rfl rfl HI.out O1.out ?_; intro w3 hr3 ht3 hf3 hs3))
        refine bodyPost_ret_by (results_cell_mid Try.results24 _ _ w.heap.size 0 _ _ rfl hr3 Try.underlying26 rfl HI.out) rfl ⟨?_, ?_, ?_⟩
        · rw [getV, hbd]; rfl
        · rw [hbd]; exact HR2.out.fr hf3 (by omega) (fun hp => by have := HR.out.blk (Nat.lt_of_lt_of_le hp (rl_len l 8)); omega)
        · exact HF.out.trans' hf3 (fun i hi e => by omega)
      · go_wp2_with (first
          | (go_at_call 48; refine (rbad_any g q _ _ _ HR2.out).mono ?_; rintro e w2 ⟨rfl, rfl⟩)
          | (refine wpList_storeB rfl rfl rfl G0.out (cs := [(0 : Int), 0, 0, 0, 0, 0, 0, 0].map (Value.int .i64)) hz rfl rfl HI0.out O0.out ?_; intro w3 hr3 ht3 hf3 hs3))
        refine bodyPost_ret_by (results_cell_mid Try.results24 _ _ w.heap.size 0 _ _ rfl hr3 Try.underlying26 rfl HI0.out) rfl ⟨?_, ?_, ?_⟩
        · rw [getV, hbd]; rfl
        · rw [hbd]; exact HR2.out.fr hf3 (by omega) (fun hp => by have := HR.out.blk (Nat.lt_of_lt_of_le hp (rl_len l 8)); omega)
        · exact HF.out.trans' hf3 (fun i hi e => by omega)
end Go.Proofs.Ytbhflfdlkiihgaa
