/- Walks of chacha's laws: the first bytes of a block of noughts. No condition. -/
import Derived.Test.YtokndemdmkaofaaCha4
namespace Go.Proofs.Ytokndemdmkaofaa
open Go.RowKit Go.Bx

def block0 : List UInt8 := blockL (List.replicate 32 0) 0 (List.replicate 12 0)
theorem block0_len : block0.length = 64 := blockL_len _ _ _
theorem block0_0 : block0[0]? = some 0x76 := by decide +kernel
theorem block0_1 : block0[1]? = some 0xb8 := by decide +kernel
theorem block0_2 : block0[2]? = some 0xe0 := by decide +kernel
theorem block0_3 : block0[3]? = some 0xad := by decide +kernel
theorem block0_63 : block0[63]? = some 0x86 := by decide +kernel
theorem box_byte {w : World} {g : Nat} {l : List UInt8} {t : TypeId} (h : w.heap[g]? = some (.cells (bvs l).toArray t (0, 0))) {i : Nat} {b : UInt8} (hb : l[i]? = some b) : w.cell? ⟨g, i, none⟩ = some (.int .u8 (b.toNat : Int)) := by
  rw [cell_of_row w g i _ _ _ h]; simp [bvs, bv, hb]
theorem zeros64 : (List.replicate 64 (Value.int .u8 0)).toArray.size = 64 := rfl
set_option maxHeartbeats 4000000 in
theorem awake4_any (w : World) : Calls Try.prog 13 #[] w fun e w' => e = .returned (.bool true) ∧ Below w.heap.size w w' := by
  obtain ⟨L, hL⟩ : ∃ L, L = block0 := ⟨_, rfl⟩
  have hlen : L.length = 64 := by rw [hL]; exact block0_len
  have hb : ∀ w, Calls Try.prog 18 #[.agg (bvs (List.replicate 32 0)).toArray, .int .u32 ((0 : Nat) : Int), .agg (bvs (List.replicate 12 0)).toArray] w fun e w' => e = .returned (.agg (bvs L).toArray) ∧ Below w.heap.size w w' := by
    rw [hL]; exact block_any (List.replicate 32 0) (List.replicate 12 0) 0 rfl rfl (by unfold B32; decide)
  have HB := Held.mk hb
  have h0 := hL ▸ block0_0
  have h1 := hL ▸ block0_1
  have h2 := hL ▸ block0_2
  have h3 := hL ▸ block0_3
  have h63 := hL ▸ block0_63
  have hi64 : (Try.prog.info? 37).map (·.size) = some (bvs L).length := by rw [bvs_length, hlen]; kernel_rfl
  have hz : (64 : Nat) = (bvs L).length := by rw [bvs_length, hlen]
  have HI := Held.mk hi64
  have HZ := Held.mk hz
  have H0 := Held.mk h0
  have H1 := Held.mk h1
  have H2 := Held.mk h2
  have H3 := Held.mk h3
  have H63 := Held.mk h63
  clear hb hi64 hz h0 h1 h2 h3 h63 hL hlen
  go_enter Try.func13, Try.ntmps13
  go_wp2_with (first
    | (go_at_call 18; refine (HB.out _).mono ?_; rintro e w1 ⟨rfl, hb1⟩; have HB1 := Held.mk hb1; clear hb1)
    | (refine wpList_storeR rfl rfl rfl (laid0 _ _) HZ.out rfl rfl HI.out (bvs_one _) ?_; intro w9 hr9 hf9 hs9; have c0 := box_byte hr9 H0.out; have c1 := box_byte hr9 H1.out; have c2 := box_byte hr9 H2.out; have c3 := box_byte hr9 H3.out; have c63 := box_byte hr9 H63.out; have HF9 := Held.mk hf9; have HS9 := Held.mk hs9; have HR9 := Held.mk hr9; clear hf9 hs9 hr9))
  go_ret
  refine ⟨rfl, ?_⟩
  have b1 := HB1.out
  have b2 : Below w.heap.size w (w1.alloc (.cells (Array.replicate 64 (.int .u8 0)) 37)) := b1.alloc b1.size _
  exact b2.trans (HF9.out.below b2.size (fun i hi e => by have := b1.size; omega))
end Go.Proofs.Ytokndemdmkaofaa
