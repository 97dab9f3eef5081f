/- A walk of the paper's own Hex. Conditions: the length within memory. -/
import Derived.Test.YtfobnajgnnccmaaPlainOct
import Derived.Test.YtfobnajgnnccmaaBase3
import Derived.Test.YtfobnajgnnccmaaInfo
import Derived.Deep.DeepMust
import Derived.RegionTactic
import Derived.BigRegion
import Derived.Lib.Strings
import Derived.Lib.Walk
namespace Go.Bx
open Go Go.RowKit
theorem made_bytes (m : Nat) : madeCells (Value.int .u8 0).cells (m * 1) = (bvs (List.replicate m 0)).toArray := by
  apply Array.ext
  · simp [size_madeCells, bvs]
  · intro i h1 h2
    simp [madeCells, bvs, Value.cells, bv, Nat.mod_one]
/-- Where a slice that holds something lies. -/
theorem Sl.addr {w : World} {a : Option Addr} {c n : Nat} {xs : List Value} {sz : Nat} (h : Sl w sz (.slice a n c) n xs) (hn : 0 < n) :
    ∃ g o, a = some ⟨g, o, none⟩ ∧ g < w.heap.size ∧ ∀ j u, xs[j]? = some u → w.cell? ⟨g, o + j, none⟩ = some u := by
  obtain ⟨hl, a, cap, he, _, _, _, h0 | ⟨g, o, rfl, hg, hc⟩⟩ := h
  · omega
  · cases he; exact ⟨g, o, rfl, hg, hc⟩
theorem and15 (c : Nat) (h2 : c < 256) : bits .and .u8 (c : Int) 15 = (c : Int) % 16 := by
  rw [show (15 : Int) = ((15 : Nat) : Int) from rfl, u8_and_nat _ _ (by omega) (by omega)]
  have : ∀ a : Fin 256, a.val &&& 15 = a.val % 16 := by decide +kernel
  have := this ⟨c, h2⟩
  simp only at this
  rw [this]; omega
end Go.Bx
namespace Go.Proofs.Ytfobnajgnnccmaa
open Go.RowKit Go.Bx

theorem dig_at (m : Nat) (h : m < (⟨#[48, 49, 50, 51, 52, 53, 54, 55, 56, 57, 97, 98, 99, 100, 101, 102]⟩ : ByteArray).size) : Value.int .u8 (((⟨#[48, 49, 50, 51, 52, 53, 54, 55, 56, 57, 97, 98, 99, 100, 101, 102]⟩ : ByteArray)[m]).toNat : Int) = bv (digB.getD m 0) := by
  have hm : m < 16 := h
  have : ∀ n : Fin 16, ((⟨#[48, 49, 50, 51, 52, 53, 54, 55, 56, 57, 97, 98, 99, 100, 101, 102]⟩ : ByteArray)[n.val]'(n.isLt)) = digB.getD n.val 0 := by decide +kernel
  rw [bv, ← this ⟨m, hm⟩]
structure HexRel (w : World) (l : List UInt8) (out i : Value) (wr : World) : Prop where
  ex : ∃ (k : Nat), i = .int .i64 k ∧ k ≤ l.length ∧ Own wr w.heap.size 1 out (hexB (l.take k)).length (bvs (hexB (l.take k))) ∧ Below w.heap.size w wr
set_option maxHeartbeats 1000000 in
theorem rhex_any (v : Value) (l : List UInt8) (w : World) (h : Sl w 1 v l.length (bvs l)) (hn : Fits (2 * l.length)) :
    Calls Try.prog 37 #[v] w fun e w' => e = .returned (.string ⟨(hexB l).toArray⟩) ∧ Below w.heap.size w w' := by
  obtain ⟨i0, hi, hz0, hz1, hz2⟩ := info_parts infoB
  obtain ⟨ua, uc, rfl⟩ := h.form
  have HS := Held.mk h
  have hnb := hn.ok
  have hmk : ∀ W : World, (Instr.makeSlice 47 (.int .i64 0) (.int .i64 (2 * (l.length : Int)))).run Try.prog W = .ok (.slice (some ⟨W.heap.size, 0, none⟩) 0 (2 * l.length)) (W.alloc (.cells (bvs (List.replicate (2 * l.length) 0)).toArray 5)) := by
    intro W
    have hr := run_make (P := Try.prog) W 47 5 i0 (.int .u8 0) Try.underlying47 hi hz0 .i64 .i64 0 ((2 * l.length : Nat) : Int) (by omega) (by omega) (by rw [hz2]; omega) (by omega)
    rw [Int.toNat_natCast, hz1, made_bytes] at hr
    simpa using hr
  clear h
  go_enter Try.func37, Try.ntmps37
  go_wp2
  go_loopw [3, 4] (fun out i wr => HexRel w l out i wr) (fun _ i _ => l.length - (intOf i).toNat)
  case atStart =>
    refine ⟨⟨0, rfl, by omega, ?_, (Below.refl _ _).alloc (Nat.le_refl _) _⟩⟩
    refine ⟨rfl, .inr ⟨w.heap.size, 0, 2 * l.length, rfl, Nat.le_refl _, by simp, Nat.zero_le _, hn.max, fun j u hj => by simp [hexB, bvs] at hj, fun j hj => ?_, fun j hj => World.frozen?_alloc_at _ _ _ _ rfl⟩⟩
    rw [World.cell?_alloc_at _ _ _ _ rfl, Array.getElem?_eq_getElem (by rw [List.size_toArray, bvs_length, List.length_replicate]; omega)]; rfl
  case round =>
    obtain ⟨k, rfl, hk, ho, hbel⟩ := hrel.ex
    have HO := Held.mk ho
    clear ho hrel hmk
    by_cases hlt : k < l.length
    · obtain ⟨g, o, rfl, hg, hc⟩ := (HS.out.grow hbel).addr (by omega)
      obtain ⟨x, hx⟩ : ∃ x : Int, x = l[k].toNat := ⟨_, rfl⟩
      have c1 : wr.cell? ⟨g, o + k, none⟩ = some (.int .u8 x) := by rw [hx]; exact hc k _ (bvs_get l k hlt)
      have hx0 : 0 ≤ x := by omega
      have hx1 : x ≤ 255 := by have := l[k].toNat_lt; omega
      have HX := Held.mk hx
      have e1 : bits .and .u8 x 15 = x % 16 := by rw [hx]; exact and15 _ l[k].toNat_lt
      have xa : 0 ≤ x / 16 := by omega
      have xb : x / 16 < 16 := by omega
      have xc : 0 ≤ x % 16 := by omega
      have xd : x % 16 < 16 := by omega
      have hsrc : ∀ d1 d2 : Int, Src Try.prog 1 47 (.slice (some ⟨wr.heap.size, 0, none⟩) 2 2) 2 [.int .u8 d1, .int .u8 d2] (wr.drew.alloc (.cells #[.int .u8 d1, .int .u8 d2] 5)) := fun d1 d2 =>
        Src.ofSlice _ Try.underlying47 ⟨wr.heap.size, 0, none⟩ 2 2 _ rfl (fun j u hj => by rw [Addr.add_lit]; exact ((show (wr.drew.alloc (.cells #[Value.int .u8 d1, .int .u8 d2] 5)).cell? ⟨wr.heap.size, 0 + j, none⟩ = (#[Value.int .u8 d1, .int .u8 d2] : Array Value)[0 + j]? from World.cell?_alloc_at _ _ _ _ rfl).trans (by simpa using hj))) (by intro u hu; simp at hu; rcases hu with rfl | rfl <;> rfl)
      have hown : ∀ o : Obj, Own (wr.drew.alloc o) w.heap.size 1 u3 (hexB (l.take k)).length (bvs (hexB (l.take k))) := fun o => HO.out.grow ((Below.refl _ _).drew.alloc (Nat.le_refl _) o)
      have hsz : ∀ o : Obj, w.heap.size ≤ (wr.drew.alloc o).heap.size := fun o => Nat.le_trans hbel.size (by simp)
      have hfit : Fits ((hexB (l.take k)).length + 2) := hn.le (by rw [hexB_len, List.length_take]; omega)
      have hmax := hfit.max
      have hmul := hfit.mul
      clear hx hc
      go_wp2
      go_region_law (refine step_append rfl _ _ 47 47 rfl (hown _) rfl 5 i0 (.int .u8 0) 1 Try.underlying47 hi hz0 hz1 hz2 rfl Nat.one_pos rfl (hsrc _ _) hmax hmul (hsz _) ?_; intro v' w2 hown2 hfr hob)
      all_goals
        go_wp2
        go_roundw
        case rel =>
          refine ⟨⟨k + 1, by push_cast; rfl, by omega, ?_, ?_⟩⟩
          · rw [hexB_take l k hlt, bvs_append, List.length_append]
            have hq := HX.out
            simp only [show (x / 16).toNat = l[k].toNat / 16 by omega, show (x % 16).toNat = l[k].toNat % 16 by omega, dig_at] at hown2
            exact hown2
          · exact (hbel.drew.alloc hbel.size _).trans (hfr.own (hsz _))
        case measure => simp [intOf]; omega
    · obtain rfl : k = l.length := by omega
      rw [List.take_length] at HO
      go_wp2_with (refine wpList_bytes_str rfl _ 47 9 rfl rfl HO.out.sl 5 Try.underlying9 Try.underlying47 Try.underlying5 ?_)
      go_ret
      exact ⟨rfl, hbel⟩
end Go.Proofs.Ytfobnajgnnccmaa
