/- OctetApart: the walk. No condition. -/
import Derived.Test.YtlmegcbiijkmaaaOct3
namespace Go.Bx
open Go Go.RowKit
/-- The first cell of an own slice that holds something. -/
theorem Own.head {w : World} {B : Nat} {v : Value} {n : Nat} {b : UInt8} {l : List UInt8} (h : Own w B 1 v n (bvs (b :: l))) (hn : 0 < n) :
    ∃ g o cap, v = .slice (some ⟨g, o, none⟩) n cap ∧ B ≤ g ∧ g < w.heap.size ∧ w.cell? ⟨g, o, none⟩ = some (.int .u8 (b.toNat : Int)) ∧ w.frozen? ⟨g, o, none⟩ = false := by
  obtain ⟨hl, ⟨rfl, _⟩ | ⟨g, o, cap, rfl, hb, hg, hn2, hm, hc, hs, hz⟩⟩ := h
  · omega
  · exact ⟨g, o, cap, rfl, hb, hg, hc 0 _ rfl, hz 0 (by omega)⟩
end Go.Bx
namespace Go.Proofs.Ytlmegcbiijkmaaa.octetApart
open Go.RowKit Go.Bx

set_option maxHeartbeats 4000000 in
theorem main (v0 : Value) (b : UInt8) (l : List UInt8) (v : Int) (hv0 : 0 ≤ v) (hv1 : v < 18446744073709551616) (w : World) (h : Sl w 1 v0 (l.length + 1) (bvs (b :: l))) (h50 : l.length + 1 ≤ 50) :
    Calls Try.prog 11 #[v0, .int .u64 v] w fun e w' => e = .returned (.bool true) ∧ Below w.heap.size w w' := by
  obtain ⟨ua, uc, rfl⟩ := h.form
  have HS := Held.mk h
  have HV := Held.mk (And.intro hv0 hv1)
  clear h hv0 hv1
  have hf : Fits (b :: l).length := ⟨by simp; omega⟩
  have hf8 : Fits ((b :: l).length + 8) := ⟨by simp; omega⟩
  go_enter Try.func11, Try.ntmps11
  go_wp2_with (first
    | (go_at_call 46; refine (awake1_any _).mono ?_; rintro e w1 ⟨rfl, hb1⟩; have S1 := Held.mk (HS.out.grow hb1))
    | (go_at_call 47; refine (big_any _ (b :: l) v HV.out.1 HV.out.2 2 _ S1.out hf8).mono ?_; rintro e w2 ⟨r2, rfl, ho2, hb2⟩; rw [List.cons_append] at ho2; obtain ⟨g2, o2, k2, rfl, hB2, hg2, c2, f2⟩ := ho2.head (by simp); have S2 := Held.mk (S1.out.grow hb2); clear ho2)
    | (go_at_call 48; refine (turn_any _ (b :: l) _ S2.out hf).mono ?_; rintro e w3 ⟨r3, rfl, ho3, hb3⟩; obtain ⟨b3, l3, e3⟩ : ∃ b3 l3, (b :: l).reverse = b3 :: l3 := List.exists_cons_of_ne_nil (by simp); rw [e3] at ho3; obtain ⟨g3, o3, k3, rfl, hB3, hg3, c3, f3⟩ := ho3.head (by simp); have S3 := Held.mk (S2.out.grow hb3); clear ho3 e3)
    | (go_at_call 49; refine (xor_any _ _ (b :: l) (b :: l) _ S3.out S3.out hf hf).mono ?_; rintro e w4 ⟨r4, rfl, ho4, hb4⟩; rw [show (xorB (b :: l) (b :: l)).length = l.length + 1 from by rw [xorB_len]; simp, show xorB (b :: l) (b :: l) = (b ^^^ b) :: xorB l l from rfl] at ho4; obtain ⟨g4, o4, k4, rfl, hB4, hg4, c4, f4⟩ := ho4.head (by simp); have S4 := Held.mk (S3.out.grow hb4); clear ho4)
    | (refine wpList_bytes_str rfl _ 23 9 rfl rfl S1.out 5 Try.underlying9 Try.underlying23 Try.underlying5 ?_))
  have d2 : w4.cell? ⟨g2, o2, none⟩ = some (.int .u8 (b.toNat : Int)) := by rw [hb4.cell (p := ⟨g2, o2, none⟩) (by have := hb3.size; show g2 < _; omega), hb3.cell (p := ⟨g2, o2, none⟩) hg2]; exact c2
  have d3 : w4.cell? ⟨g3, o3, none⟩ = some (.int .u8 (b3.toNat : Int)) := by rw [hb4.cell (p := ⟨g3, o3, none⟩) hg3]; exact c3
  have e2 : w4.frozen? ⟨g2, o2, none⟩ = false := by rw [hb4.frozen (p := ⟨g2, o2, none⟩) (by have := hb3.size; show g2 < _; omega), hb3.frozen (p := ⟨g2, o2, none⟩) hg2]; exact f2
  have e3 : w4.frozen? ⟨g3, o3, none⟩ = false := by rw [hb4.frozen (p := ⟨g3, o3, none⟩) hg3]; exact f3
  have hbel : Below w.heap.size w w4 := hb1.trans ((hb2.trans ((hb3.trans (hb4.mono hb3.size)).mono hb2.size)).mono hb1.size)
  have n23 : g2 < g3 := by omega
  have n34 : g3 < g4 := by omega
  have n24 : g2 < g4 := by omega
  have hw1 := hb1.size
  have hlow : Held (w.heap.size ≤ g2) := ⟨by omega⟩
  have HB := Held.mk hbel
  have hsrc : Held (∀ k, w.heap.size ≤ k → (Value.slice ua (l.length + 1) uc).ownBlock = some k → False) := ⟨fun k hk hb => by have := HS.out.blk (by omega) hb; omega⟩
  generalize (b.toNat : Int) = x2 at *
  generalize (b3.toNat : Int) = x3 at *
  generalize ((b ^^^ b).toNat : Int) = x4 at *
  clear c2 c3 f2 f3 hb1 hb2 hb3 hb4 hB2 hB3 hB4 hbel S1 S2 S3 hg2 hg3 hg4 hw1
  have hfr3 : ∀ u2 u3 u4 : Value, Fr (fun k => w.heap.size ≤ k) w4 (((w4.setCell ⟨g2, o2, none⟩ u2).setCell ⟨g3, o3, none⟩ u3).setCell ⟨g4, o4, none⟩ u4).drew := fun u2 u3 u4 => by
    have hl := hlow.out
    exact (((Fr.setCell _ (by show w.heap.size ≤ g2; omega) _).trans (Fr.setCell _ (by show w.heap.size ≤ g3; omega) _)).trans (Fr.setCell _ (by show w.heap.size ≤ g4; omega) _)).trans (Fr.drew _ _)
  have S5 : ∀ u2 u3 u4 : Value, Sl (((w4.setCell ⟨g2, o2, none⟩ u2).setCell ⟨g3, o3, none⟩ u3).setCell ⟨g4, o4, none⟩ u4).drew 1 (.slice ua (l.length + 1) uc) (l.length + 1) (bvs (b :: l)) := fun u2 u3 u4 => S4.out.fr (hfr3 u2 u3 u4) (fun _ k _ hk hs => hsrc.out k hs hk)
  go_region
  go_wp2_with (refine wpList_bytes_str rfl _ 23 9 rfl rfl (S5 _ _ _) 5 Try.underlying9 Try.underlying23 Try.underlying5 ?_)
  go_ret
  refine ⟨by simp, HB.out.trans ((hfr3 _ _ _).below HB.out.size (fun k hk hs => by omega))⟩
theorem walk (w : World) (v0 : Value) (l : List UInt8) (h : Sl w 1 v0 l.length (bvs l)) (v : Int) (hv : 0 ≤ v ∧ v < 18446744073709551616) :
    Calls Try.prog 11 #[v0, .int .u64 v] w fun e w' => e = .returned (.bool true) ∧ Below w.heap.size w w' := by
  obtain ⟨ua, uc, rfl⟩ := h.form
  by_cases h50 : 50 < l.length
  · have hnb : (50 : Int) < (l.length : Int) := by omega
    have hnb1 : ¬ (l.length : Int) < 1 := by omega
    clear h
    go_enter Try.func11, Try.ntmps11
    go_wp2_with (go_at_call 46; refine (awake1_any _).mono ?_; rintro e w1 ⟨rfl, hb1⟩)
    go_ret
    exact ⟨rfl, hb1⟩
  · cases l with
    | nil =>
      clear h
      go_enter Try.func11, Try.ntmps11
      go_wp2_with (go_at_call 46; refine (awake1_any _).mono ?_; rintro e w1 ⟨rfl, hb1⟩)
      go_ret
      exact ⟨rfl, hb1⟩
    | cons b l => exact main _ b l v hv.1 hv.2 w h (by simp at h50; omega)
end Go.Proofs.Ytlmegcbiijkmaaa.octetApart
