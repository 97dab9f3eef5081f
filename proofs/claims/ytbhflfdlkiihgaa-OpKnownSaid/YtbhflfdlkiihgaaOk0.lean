/- Names: of 1 to 40 signs, each from 33 to 126; the program's and the document's own. No condition. -/
import Derived.Test.YtbhflfdlkiihgaaVecD
import Derived.Test.YtbhflfdlkiihgaaVecR
namespace Go.Proofs.Ytbhflfdlkiihgaa
open Go.RowKit Go.Bx

def signB (b : UInt8) : Bool := decide (33 ≤ b.toNat) && decide (b.toNat ≤ 126)
def nameB (l : List UInt8) : Bool := l.all signB && decide (1 ≤ l.length) && decide (l.length ≤ 40)
theorem nameB_bad {l : List UInt8} {i : Nat} {b : UInt8} (h : l[i]? = some b) (hb : signB b = false) : nameB l = false := by
  have : l.all signB = false := by
    rw [Bool.eq_false_iff]; intro hc
    rw [List.all_eq_true] at hc
    rw [hc b (List.mem_of_getElem? h)] at hb; cases hb
  unfold nameB; rw [this]; rfl
theorem nameB_all {l : List UInt8} (h : ∀ j, j < l.length → signB (l.getD j 0) = true) : nameB l = (decide (1 ≤ l.length) && decide (l.length ≤ 40)) := by
  have : l.all signB = true := by
    rw [List.all_eq_true]
    intro x hx
    obtain ⟨i, hi, rfl⟩ := List.mem_iff_getElem.1 hx
    have := h i hi
    rw [List.getD_eq_getElem?_getD, List.getElem?_eq_getElem hi] at this
    exact this
  unfold nameB; rw [this]; rfl
theorem indexStr {l : List UInt8} {k : Nat} {b : UInt8} (hb : l[k]? = some b) (w : World) : (Instr.index 9 (.string ⟨l.toArray⟩) (.int .i64 k)).run Try.prog w = .ok (.int .u8 (b.toNat : Int)) w := by
  obtain ⟨hk, rfl⟩ := List.getElem?_eq_some_iff.1 hb
  have hz : k < (⟨l.toArray⟩ : ByteArray).size := by simpa [ByteArray.size] using hk
  have hg : (⟨l.toArray⟩ : ByteArray)[k]? = some l[k] := by rw [getElem?_pos (⟨l.toArray⟩ : ByteArray) k hz]; rfl
  simp [Instr.index, asIntOf, run_underlying Try.underlying9, hg]
set_option maxHeartbeats 400000 in
theorem name_any (l : List UInt8) (hl : l.length ≤ 140737488355328) (w : World) :
    Calls Try.prog 32 #[.string ⟨l.toArray⟩] w fun e w' => e = .returned (.bool (nameB l)) ∧ Below w.heap.size w w' := by
  have hsz : (⟨l.toArray⟩ : ByteArray).size = l.length := by simp [ByteArray.size]
  go_enter Try.func32, Try.ntmps32
  go_wp2
  go_loop [6] (fun i => ∃ k : Nat, k ≤ l.length ∧ i = .int .i64 k ∧ Held (∀ j, j < k → signB (l.getD j 0) = true)) (fun i => l.length - (intOf i).toNat)
  case atStart => exact ⟨0, by omega, rfl, ⟨fun j hj => by omega⟩⟩
  case round =>
    obtain ⟨k, hk, rfl, hall⟩ := hrel
    by_cases hlt : k < l.length
    · obtain ⟨b, hb⟩ : ∃ b, l[k]? = some b := ⟨_, List.getElem?_eq_getElem hlt⟩
      have hix := indexStr hb
      have hb8 := b.toNat_lt
      have hgd : l.getD k 0 = b := by rw [List.getD_eq_getElem?_getD, hb]; rfl
      obtain ⟨b1, hb1⟩ : ∃ c, decide ((b.toNat : Int) < 33) = c := ⟨_, rfl⟩
      obtain ⟨b2, hb2⟩ : ∃ c, decide ((126 : Int) < (b.toNat : Int)) = c := ⟨_, rfl⟩
      cases b1
      · cases b2
        · have hm : Held (signB b = true) := ⟨by simp at hb1 hb2; simp [signB]; omega⟩
          go_wp2
          go_round
          case rel =>
            refine ⟨k + 1, by omega, by push_cast; rfl, ⟨fun j hj => ?_⟩⟩
            by_cases hjk : j = k
            · subst hjk; rw [hgd]; exact hm.out
            · exact hall.out j (by omega)
          case measure => simp [intOf]; omega
        · have hf : nameB l = false := nameB_bad hb (by simp at hb2; simp [signB]; omega)
          go_wp2
          go_ret
          exact ⟨by first | rfl | (rw [hf]; rfl), Below.refl _ _⟩
      · have hf : nameB l = false := nameB_bad hb (by simp at hb1; simp [signB]; omega)
        go_wp2
        go_ret
        exact ⟨by first | rfl | (rw [hf]; rfl), Below.refl _ _⟩
    · obtain rfl : k = l.length := by omega
      have hf := nameB_all hall.out
      obtain ⟨c, hc⟩ : ∃ c, decide ((1 : Int) ≤ (l.length : Int)) = c := ⟨_, rfl⟩
      have hc' : decide (1 ≤ l.length) = c := by rw [← hc, Bool.eq_iff_iff]; simp; omega
      have h40 : decide (l.length ≤ 40) = decide ((l.length : Int) ≤ 40) := by rw [Bool.eq_iff_iff]; simp; omega
      rw [hc', h40] at hf
      cases c
      · go_wp2
        go_ret
        exact ⟨by first | rfl | (rw [hf]; rfl), Below.refl _ _⟩
      · go_wp2
        go_ret
        exact ⟨by first | rfl | (rw [hf]; rfl), Below.refl _ _⟩
set_option maxHeartbeats 400000 in
theorem rname_any (l : List UInt8) (hl : l.length ≤ 140737488355328) (w : World) :
    Calls Try.prog 41 #[.string ⟨l.toArray⟩] w fun e w' => e = .returned (.bool (nameB l)) ∧ Below w.heap.size w w' := by
  have hsz : (⟨l.toArray⟩ : ByteArray).size = l.length := by simp [ByteArray.size]
  go_enter Try.func41, Try.ntmps41
  go_wp2
  go_loop [3] (fun i => ∃ k : Nat, k ≤ l.length ∧ i = .int .i64 k ∧ Held (∀ j, j < k → signB (l.getD j 0) = true)) (fun i => l.length - (intOf i).toNat)
  case atStart => exact ⟨0, by omega, rfl, ⟨fun j hj => by omega⟩⟩
  case round =>
    obtain ⟨k, hk, rfl, hall⟩ := hrel
    by_cases hlt : k < l.length
    · obtain ⟨b, hb⟩ : ∃ b, l[k]? = some b := ⟨_, List.getElem?_eq_getElem hlt⟩
      have hix := indexStr hb
      have hb8 := b.toNat_lt
      have hgd : l.getD k 0 = b := by rw [List.getD_eq_getElem?_getD, hb]; rfl
      obtain ⟨b1, hb1⟩ : ∃ c, decide ((b.toNat : Int) < 33) = c := ⟨_, rfl⟩
      obtain ⟨b2, hb2⟩ : ∃ c, decide ((126 : Int) < (b.toNat : Int)) = c := ⟨_, rfl⟩
      cases b1
      · cases b2
        · have hm : Held (signB b = true) := ⟨by simp at hb1 hb2; simp [signB]; omega⟩
          go_wp2
          go_round
          case rel =>
            refine ⟨k + 1, by omega, by push_cast; rfl, ⟨fun j hj => ?_⟩⟩
            by_cases hjk : j = k
            · subst hjk; rw [hgd]; exact hm.out
            · exact hall.out j (by omega)
          case measure => simp [intOf]; omega
        · have hf : nameB l = false := nameB_bad hb (by simp at hb2; simp [signB]; omega)
          go_wp2
          go_ret
          exact ⟨by first | rfl | (rw [hf]; rfl), Below.refl _ _⟩
      · have hf : nameB l = false := nameB_bad hb (by simp at hb1; simp [signB]; omega)
        go_wp2
        go_ret
        exact ⟨by first | rfl | (rw [hf]; rfl), Below.refl _ _⟩
    · obtain rfl : k = l.length := by omega
      have hf := nameB_all hall.out
      obtain ⟨c, hc⟩ : ∃ c, decide ((1 : Int) ≤ (l.length : Int)) = c := ⟨_, rfl⟩
      have hc' : decide (1 ≤ l.length) = c := by rw [← hc, Bool.eq_iff_iff]; simp; omega
      have h40 : decide (l.length ≤ 40) = decide ((l.length : Int) ≤ 40) := by rw [Bool.eq_iff_iff]; simp; omega
      rw [hc', h40] at hf
      cases c
      · go_wp2
        go_ret
        exact ⟨by first | rfl | (rw [hf]; rfl), Below.refl _ _⟩
      · go_wp2
        go_ret
        exact ⟨by first | rfl | (rw [hf]; rfl), Below.refl _ _⟩
end Go.Proofs.Ytbhflfdlkiihgaa
