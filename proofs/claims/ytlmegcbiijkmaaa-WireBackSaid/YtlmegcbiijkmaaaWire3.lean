/- Walks of wire, the third part: words read; the document's own writing. Conditions: lengths within memory. -/
import Derived.Test.YtlmegcbiijkmaaaWire2
namespace Go.Proofs.Ytlmegcbiijkmaaa
open Go.RowKit Go.Bx

def zeros (n : Nat) : List UInt8 := List.replicate n 0
theorem zeros_len (n : Nat) : (zeros n).length = n := by simp [zeros]
def wordV (l : List UInt8) : List UInt8 := if 32 ≤ l.length then l.take 32 else zeros 32
theorem wordV_len (l : List UInt8) : (wordV l).length = 32 := by unfold wordV; split <;> simp [zeros]; omega
theorem nmTake : (Try.f58.name == "runtime.NumGoroutine") = false := by kernel_rfl
set_option maxHeartbeats 1000000 in
theorem rword_any (g q : Nat) (l : List UInt8) (bad : Bool) (w : World) (h : Rdr w g q l bad) (hl : Fits l.length) :
    Calls Try.prog 21 #[.pointer (some ⟨g, 0, none⟩)] w fun e w' => e = .returned (.agg (bvs (wordV l)).toArray) ∧ Rdr w' g q (takeL 32 l) (takeB 32 l bad) ∧ Fr (· = g) w w' := by
  have HR := Held.mk h
  clear h
  go_enter Try.func21, Try.ntmps21
  go_wp2_with fail
  refine gen_world ?_
  intro W1 HW
  have ha : W1.heap[w.heap.size]? = some (.cells (bvs (List.replicate 32 0)).toArray 31 (0, 0)) := by rw [HW.out]; exact heap_alloc2_old _ _ _
  have hb : W1.heap[w.heap.size + 1]? = some (.cells (bvs (List.replicate 32 0)).toArray 31 (0, 0)) := by rw [HW.out]; exact heap_alloc2_new _ _ _
  have hz : W1.heap.size = w.heap.size + 2 := by rw [HW.out]; simp
  have hbel : Below w.heap.size w W1 := by rw [HW.out]; exact ((Below.refl _ _).alloc (Nat.le_refl _) _).alloc (by simp) _
  have hr0 : Rdr W1.drew g q l bad := HR.out.grow hbel.drew
  have hbig : Fits l.length := hl
  have HA := Held.mk ha
  have HB := Held.mk hb
  have HZ := Held.mk hz
  have HBel := Held.mk hbel
  have HR0 := Held.mk hr0
  have h32 : (0 : Int) ≤ 32 := by decide
  have hgl := HR.out.lt
  have hsz8 : (Try.prog.info? 5).map (·.size) = some 1 := by kernel_rfl
  have hfit : 0 + Nat.min (takeV (Int.toNat 32) l).length 32 ≤ (bvs (List.replicate 32 0)).toArray.size := by rw [List.size_toArray, bvs_length, List.length_replicate, Nat.zero_add]; exact Nat.min_le_right _ _
  clear ha hb hz hbel hr0 HW
  go_region_law (first | (refine step_copy rfl _ _ 23 23 rfl 5 Try.underlying23 hsz8 rfl HBk.out rfl HO.out.sl (bvs_one _) hfit ?_; intro w2 hg2 hf2) | (refine step_calls rfl 58 _ _ rfl Try.func58 nmTake rfl rfl (take_any g q l bad 32 _ HR0.out h32 hl) ?_; rintro e w1 ⟨r, rfl, hown1, hr1, hf1⟩; refine ⟨_, rfl, ?_⟩; have HO := Held.mk hown1; have HR1 := Held.mk hr1; have hbk : w1.heap[w.heap.size + 1]? = some (.cells (bvs (List.replicate 32 0)).toArray 31 (0, 0)) := ((hf1.block _ (Nat.lt_of_lt_of_eq (Nat.lt_succ_self _) HZ.out.symm) (fun e => absurd e (Nat.ne_of_gt (Nat.lt_succ_of_lt hgl)))).trans HB.out); have HBk := Held.mk hbk; clear hown1 hr1 hbk))
  have hcw : (takeV (Int.toNat 32) l).take (Nat.min (takeV (Int.toNat 32) l).length 32) = takeV 32 l := by
    rw [show Int.toNat 32 = 32 from rfl]
    refine List.take_of_length_le ?_
    have : (takeV 32 l).length ≤ 32 := by unfold takeV; split <;> simp; omega
    show _ ≤ min _ _
    omega
  have hw32 : splice (bvs (List.replicate 32 0)) 0 (bvs (takeV 32 l)) = bvs (wordV l) := by
    unfold takeV wordV
    split
    · rw [splice_all]; simp [bvs_length]; omega
    · exact splice_none _ _
  have hbt : ∀ k, (bvs (takeV (Int.toNat 32) l)).take k = bvs ((takeV (Int.toNat 32) l).take k) := fun k => by simp [bvs]
  rw [hbt, hcw, hw32] at hg2
  have hfin : w2.heap[w.heap.size]? = some (.cells (bvs (List.replicate 32 0)).toArray 31 (0, 0)) := by
    have hz1 : W1.drew.heap.size = w.heap.size + 2 := HZ.out
    have hs1 := hf1.size
    rw [hf2.block _ (by omega) (by omega), hf1.block _ (by omega) (by omega)]
    exact HA.out
  have htl : 0 < (takeL (Int.toNat 32) l).length → q < w.heap.size := fun h => HR.out.blk (by have : (takeL (Int.toNat 32) l).length ≤ l.length := (by unfold takeL; split <;> simp); omega)
  have hr2 := HR1.out.fr hf2 (by omega) (fun h => by have := htl h; omega)
  have hrg := rangeAt_of hg2
  have hth := there_of hfin
  have e32 : (bvs (List.replicate 32 0)).toArray.size = 32 := by simp [bvs]
  have ew : (bvs (wordV l)).toArray.size = 32 := by simp [bvs, wordV_len]
  rw [e32] at hth
  have EW := Held.mk ew
  have HRG := Held.mk hrg
  have HTH := Held.mk hth
  have hinfo : (Try.prog.info? 31).map (·.size) = some 32 := by kernel_rfl
  have HI := Held.mk hinfo
  clear hg2 hfin hcw hw32 hbt hrg hth hinfo e32 ew
  go_wp2_with (first | (refine wpList_load_mid rfl 31 _ rfl (w.heap.size + 1) 0 rfl (bvs (wordV l)) _ HRG.out Try.underlying31 rfl ?_ ?_; (rw [bvs_length, wordV_len]; exact HI.out)) | (refine wpList_store_mid rfl 31 _ _ rfl w.heap.size 0 (bvs (wordV l)).toArray rfl rfl ?_ ?_ ?_ ?_; (rw [EW.out]; exact HTH.out); (rw [EW.out]; exact HI.out); exact all_oneCell_toArray (bvs_one _)))
  have hf3 : Fr (· = w.heap.size) w2 (w2.setCells w.heap.size 0 (bvs (wordV l))) := Fr.setCells _ _ _ _ rfl
  have hl32 : (bvs (wordV l)).length = 32 := by rw [bvs_length, wordV_len]
  refine bodyPost_ret_by (results_cell_mid Try.results21 _ _ w.heap.size 0 (bvs (wordV l)) _ rfl (World.rangeAt_setCells_same _ _ _ _ (by rw [hl32]; exact HTH.out)) Try.underlying31 rfl (by rw [hl32]; exact HI.out)) rfl ⟨rfl, ?_, ?_⟩
  · exact hr2.fr hf3 (by omega) (fun h => by have := htl h; omega)
  · have hs1 : Fr (· = g) w W1.drew := (Fr.ofBelow HBel.out _).trans (Fr.drew _ _)
    exact ((hs1.trans hf1).trans' hf2 (fun i hi e => by omega)).trans' hf3 (fun i hi e => by omega)
end Go.Proofs.Ytlmegcbiijkmaaa
