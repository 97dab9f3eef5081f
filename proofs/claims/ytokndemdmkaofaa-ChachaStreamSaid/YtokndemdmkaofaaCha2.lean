/- Walks of chacha: a state is mixed. No condition. -/
import Derived.Test.YtokndemdmkaofaaCha
import Derived.Test.YtokndemdmkaofaaRel3
namespace Go.Bx
open Go Go.RowKit
theorem LoadQ.cell {P : Program} {t : TypeId} {k : IntKind} {W0 : World} {p : Addr} {x : Int} (ht : P.underlying t = some (.int k)) (h : W0.cell? p = some (.int k x)) : LoadQ P t W0 (.pointer (some p)) (.int k x) :=
  ⟨fun y a s hs => by
    have hc := y.cell h
    simp only [execOp, hs]
    simp [Instr.loadAt, Instr.sureAddr, go_sem, isAgg, run_underlying ht, hc]⟩
theorem store_cell {P : Program} {t : TypeId} {k : IntKind} {w : World} {p : Addr} {x y : Int} {i : TypeInfo} (hi : P.info? t = some i) (h1 : i.size = 1) (h : w.cell? p = some (.int k x)) (hf : w.frozen? p = false) :
    (Instr.storeAt t (.pointer (some p)) (.int k y)).run P w = .ok () (w.setCell p (.int k y)) := by
  simp [Instr.storeAt, Instr.sureAddr, go_sem, sizeOf, typeInfo, hi, h1, h, hf]
theorem index_array {P : Program} {t e : TypeId} {n : Nat} {i : TypeInfo} (ht : P.underlying t = some (.array n e)) (hi : P.info? e = some i) (h1 : i.size = 1) {g j : Nat} (hj : j < n) (w : World) :
    (Instr.indexAt t (.pointer (some ⟨g, 0, none⟩)) (.int .i64 (j : Int))).run P w = .ok (.pointer (some ⟨g, j, none⟩)) w := by
  simp [Instr.indexAt, Instr.sureAddr, asIntOf, run_underlying ht, hj, sizeOf, typeInfo, hi, h1, Addr.add]
  rintro rfl; rfl
/-- A row of 32-bit numbers. -/
def w32 (L : List Nat) : Array Value := (L.map fun n : Nat => Value.int .u32 (n : Int)).toArray
theorem w32_get {L : List Nat} {i x : Nat} (h : L[i]? = some x) : (w32 L)[i]? = some (.int .u32 (x : Int)) := by simp [w32, h]
theorem w32_set (L : List Nat) (i y : Nat) : (w32 L).setIfInBounds i (.int .u32 (y : Int)) = w32 (L.set i y) := by simp [w32, List.map_set]
def mixL (L : List Nat) (a b c d : Nat) : List Nat :=
  let q := qr (L.getD a 0) (L.getD b 0) (L.getD c 0) (L.getD d 0)
  (((L.set a q.a).set b q.b).set c q.c).set d q.d
end Go.Bx
namespace Go.Proofs.Ytokndemdmkaofaa
open Go.RowKit Go.Bx

theorem info32 : (Try.prog.info? 22).map (fun i => (i.zero, i.size, i.bytes)) = some (some (.int .u32 0), 1, 4) := by kernel_rfl
/-- The row at block g. -/
def Row (g : Nat) (L : List Nat) (w : World) : Prop := w.heap[g]? = some (.cells (w32 L) 57 (0, 0))
theorem Row.cell {g : Nat} {L : List Nat} {w : World} (h : Row g L w) {i x : Nat} (hx : L[i]? = some x) : w.cell? ⟨g, i, none⟩ = some (.int .u32 (x : Int)) := by rw [cell_of_row w g i _ _ _ h]; exact w32_get hx
theorem Row.store {g : Nat} {L : List Nat} {w : World} (h : Row g L w) {i x : Nat} (hx : L[i]? = some x) (y : Nat) :
    ∃ w', (Instr.storeAt 22 (.pointer (some ⟨g, i, none⟩)) (.int .u32 (y : Int))).run Try.prog w = .ok () w' ∧ Fr (· = g) w w' ∧ Row g (L.set i y) w' := by
  obtain ⟨i0, hi, hz0, hz1, hz2⟩ := info_parts info32
  refine ⟨_, store_cell (k := .u32) hi hz1 (h.cell hx) (frozen_of_row w g i _ _ h), Fr.setCell (S := (· = g)) w (p := ⟨g, i, none⟩) rfl _, ?_⟩
  have := heap_setCell_same w g i (w32 L) _ (.int .u32 (y : Int)) h
  rw [w32_set] at this
  exact this
theorem Row.fr {g : Nat} {L : List Nat} {w w' : World} (h : Row g L w) (hf : Fr (fun _ => False) w w') : Row g L w' := by
  unfold Row at *
  rw [hf.block g (Array.getElem?_eq_some_iff.1 h).1 id]; exact h
set_option maxHeartbeats 4000000 in
theorem mix_any (g : Nat) (L : List Nat) (hL : L.length = 16) (hB : ∀ x ∈ L, B32 x) (a b c d : Nat) (ha : a < 16) (hb : b < 16) (hc : c < 16) (hd : d < 16) (w : World) (h : Row g L w) :
    Calls Try.prog 38 #[.pointer (some ⟨g, 0, none⟩), .int .i64 (a : Int), .int .i64 (b : Int), .int .i64 (c : Int), .int .i64 (d : Int)] w fun e w' => (∃ v, e = .returned v) ∧ Row g (mixL L a b c d) w' ∧ Fr (· = g) w w' := by
  obtain ⟨xa, hxa⟩ : ∃ x, L[a]? = some x := ⟨_, List.getElem?_eq_getElem (by omega)⟩
  obtain ⟨xb, hxb⟩ : ∃ x, L[b]? = some x := ⟨_, List.getElem?_eq_getElem (by omega)⟩
  obtain ⟨xc, hxc⟩ : ∃ x, L[c]? = some x := ⟨_, List.getElem?_eq_getElem (by omega)⟩
  obtain ⟨xd, hxd⟩ : ∃ x, L[d]? = some x := ⟨_, List.getElem?_eq_getElem (by omega)⟩
  have ba := hB xa (List.mem_of_getElem? hxa)
  have bb := hB xb (List.mem_of_getElem? hxb)
  have bc := hB xc (List.mem_of_getElem? hxc)
  have bd := hB xd (List.mem_of_getElem? hxd)
  obtain ⟨q, hq⟩ : ∃ q, q = qr xa xb xc xd := ⟨_, rfl⟩
  have HL := Held.mk hL
  have hset : ∀ (M : List Nat), M.length = 16 → ∀ i, i < 16 → ∃ x, M[i]? = some x := fun M hM i hi => ⟨_, List.getElem?_eq_getElem (by omega)⟩
  have HQ := Held.mk hq
  have HH := Held.mk h
  obtain ⟨i0, hi, hz0, hz1, hz2⟩ := info_parts info32
  go_enter Try.func38, Try.ntmps38
  refine wp_region_t (· = g) (fun j w => Row g ([L, L.set a q.a, (L.set a q.a).set b q.b, ((L.set a q.a).set b q.b).set c q.c, (((L.set a q.a).set b q.b).set c q.c).set d q.d].getD j []) w)
    [.pointer (some ⟨g, a, none⟩), .pointer (some ⟨g, b, none⟩), .pointer (some ⟨g, c, none⟩), .pointer (some ⟨g, d, none⟩), .int .u32 (xa : Int), .int .u32 (xb : Int), .int .u32 (xc : Int), .int .u32 (xd : Int), .tuple #[u32v q.a, u32v q.b, u32v q.c, u32v q.d], u32v q.a, u32v q.b, u32v q.c, u32v q.d] 4 (fun _ _ _ => True)
    [⟨sop [10] [.var 0], .var 0, [], none⟩, ⟨sop [5, 57] [.var 0, .var 1], .var 52, [], none⟩, ⟨sop [5, 57] [.var 0, .var 2], .var 53, [], none⟩, ⟨sop [5, 57] [.var 0, .var 3], .var 54, [], none⟩, ⟨sop [5, 57] [.var 0, .var 4], .var 55, [], none⟩,
     ⟨sop [0, 22] [.var 52], .var 56, [], some 0⟩, ⟨sop [0, 22] [.var 53], .var 57, [], some 0⟩, ⟨sop [0, 22] [.var 54], .var 58, [], some 0⟩, ⟨sop [0, 22] [.var 55], .var 59, [], some 0⟩,
     ⟨sop [1, 14] [.var 56, .var 57, .var 58, .var 59], .var 60, [], none⟩, ⟨sop [11, 0] [.var 60], .var 61, [], none⟩, ⟨sop [11, 1] [.var 60], .var 62, [], none⟩, ⟨sop [11, 2] [.var 60], .var 63, [], none⟩, ⟨sop [11, 3] [.var 60], .var 64, [], none⟩]
    [⟨36, 0, sop [9, 22] [.var 52, .var 61], []⟩, ⟨39, 1, sop [9, 22] [.var 53, .var 62], []⟩, ⟨42, 2, sop [9, 22] [.var 54, .var 63], []⟩, ⟨45, 3, sop [9, 22] [.var 55, .var 64], []⟩] [36, 39, 42, 45]
    (by kernel_rfl) (fun _ _ _ _ _ _ => trivial) (fun j w w' hf h => h.fr hf) HH.out ?_ ?_ 52 65 rfl rfl [] (by kernel_rfl) fun x t φ hts _ _ _ hR => ?_
  · have hidx : ∀ (j : Nat), j < 16 → ∀ w, (Instr.indexAt 57 (.pointer (some ⟨g, 0, none⟩)) (.int .i64 (j : Int))).run Try.prog w = .ok (.pointer (some ⟨g, j, none⟩)) w := fun j hj w => index_array Try.underlying57 hi hz1 hj w
    refine allFT_cons (FactT.of fun x => FactR.nilc fun φ => ⟨_, rfl⟩) (allFT_cons (FactT.of fun x => FactR.addr fun φ w => hidx a ha w) (allFT_cons (FactT.of fun x => FactR.addr fun φ w => hidx b hb w) (allFT_cons (FactT.of fun x => FactR.addr fun φ w => hidx c hc w) (allFT_cons (FactT.of fun x => FactR.addr fun φ w => hidx d hd w)
      (allFT_cons (FactT.ofAt fun x hS => FactR.load fun φ => LoadQ.cell Try.underlying22 (Row.cell hS hxa)) (allFT_cons (FactT.ofAt fun x hS => FactR.load fun φ => LoadQ.cell Try.underlying22 (Row.cell hS hxb)) (allFT_cons (FactT.ofAt fun x hS => FactR.load fun φ => LoadQ.cell Try.underlying22 (Row.cell hS hxc)) (allFT_cons (FactT.ofAt fun x hS => FactR.load fun φ => LoadQ.cell Try.underlying22 (Row.cell hS hxd))
      (allFT_cons (FactT.of fun x => FactR.call (IsFn.mk' Try.func14 (by kernel_rfl) rfl) fun φ y _ => ?_) (allFT_cons (FactT.of fun x => FactR.extr fun φ y _ => rfl) (allFT_cons (FactT.of fun x => FactR.extr fun φ y _ => rfl) (allFT_cons (FactT.of fun x => FactR.extr fun φ y _ => rfl) (allFT_cons (FactT.of fun x => FactR.extr fun φ y _ => rfl) allFT_nil)))))))))))))
    have hB4 : ∀ n : Nat, B32 n → (0 : Int) ≤ n ∧ (n : Int) < 4294967296 := fun n hn => by unfold B32 at hn; omega
    refine (quarter_any xa xb xc xd (hB4 _ ba) (hB4 _ bb) (hB4 _ bc) (hB4 _ bd) y.w).mono fun e w' ⟨he, hw⟩ => ⟨?_, by rw [hw]; exact Fr.refl _ _⟩
    rw [he]
    simp only [Int.toNat_natCast, ← HQ.out]
    rfl
  · have go : ∀ (M : List Nat) (i y : Nat), M.length = 16 → i < 16 → ∀ w, Row g M w → ∃ w', (Instr.storeAt 22 (.pointer (some ⟨g, i, none⟩)) (u32v y)).run Try.prog w = .ok () w' ∧ Fr (· = g) w w' ∧ Row g (M.set i y) w' := fun M i y hM hi w hR => by
      obtain ⟨x, hx⟩ := hset M hM i hi
      exact hR.store hx y
    have l1 : (L.set a q.a).length = 16 := by rw [List.length_set]; exact hL
    have l2 : ((L.set a q.a).set b q.b).length = 16 := by rw [List.length_set]; exact l1
    have l3 : (((L.set a q.a).set b q.b).set c q.c).length = 16 := by rw [List.length_set]; exact l2
    refine allZS_cons (j := some 0) (by kernel_rfl) (FreshS.store fun φ x _ hR => ?_) (allZS_cons (j := some 1) (by kernel_rfl) (FreshS.store fun φ x _ hR => ?_) (allZS_cons (j := some 2) (by kernel_rfl) (FreshS.store fun φ x _ hR => ?_) (allZS_cons (j := some 3) (by kernel_rfl) (FreshS.store fun φ x _ hR => ?_) allZS_nil)))
    · obtain ⟨w', h1, h2, h3⟩ := go L a q.a hL ha x.w hR
      exact ⟨w', h1, h2, h3, fun _ => trivial⟩
    · obtain ⟨w', h1, h2, h3⟩ := go _ b q.b l1 hb x.w hR
      exact ⟨w', h1, h2, h3, fun _ => trivial⟩
    · obtain ⟨w', h1, h2, h3⟩ := go _ c q.c l2 hc x.w hR
      exact ⟨w', h1, h2, h3, fun _ => trivial⟩
    · obtain ⟨w', h1, h2, h3⟩ := go _ d q.d l3 hd x.w hR
      exact ⟨w', h1, h2, h3, fun _ => trivial⟩
  go_end0
  refine ⟨⟨_, rfl⟩, ?_, x.fr⟩
  have e : mixL L a b c d = (((L.set a q.a).set b q.b).set c q.c).set d q.d := by
    unfold mixL
    simp only [List.getD_eq_getElem?_getD, hxa, hxb, hxc, hxd, Option.getD_some, ← HQ.out]
  rw [e]; exact hR
end Go.Proofs.Ytokndemdmkaofaa
