/- Words for slices, the second part: texts and bytes. No condition. -/
import Derived.Test.YtbhflfdlkiihgaaBase
import Derived.Laws.IdiomStrings
import Derived.Laws.BytesString
namespace Go.Bx
open Go Go.RowKit
/-- []byte(s): bytes of the call's own. -/
theorem wpList_str_bytes {P : Program} {ops : Array Oper} {rest : List Oper} {o : Oper} {a : Act} {Q : Exit → Act → World → Prop} {w : World} (hw : Region.wanted o (yielded ops a.tmps) = true) (x : Operand) (src dst : TypeId)
    (ho : o.op = .convert src dst x) {s : ByteArray} (hx : a.eval x = .string s) (e : TypeId) (hs : P.underlying src = some .string) (hd : P.underlying dst = some (.slice e)) (he : P.underlying e = some (.int .u8)) (hsz : Fits s.size)
    (h : ∀ v' w', Own w' w.heap.size 1 v' s.size (bvs s.data.toList) → Below w.heap.size w w' → wpList P ops Q rest (a.put o.dst v') w') :
    wpList P ops Q (o :: rest) a w := by
  refine wpList_wanted hw fun K hK => ?_
  have hr := run_bytes_of_string (P := P) w src dst e s hs hd he
  unfold Oper.wp execOp
  simp only [ho, Sem.run_bind, Sem.run_pure, Result.andThen_ok, hx, hr]
  refine hK _ _ (h _ _ ?_ ?_)
  · have hge := grownCap_ge w s.size 0 e
    have hsz2 : (bytesRow s (grownCap w s.size 0 e)).size = grownCap w s.size 0 e := by
      simp only [bytesRow, Array.size_append, Array.size_map, Array.size_replicate]
      have : s.data.size = s.size := rfl
      omega
    have hlook := heap_alloc_new w.drew (.cells (bytesRow s (grownCap w s.size 0 e)) e ((bytesRow s (grownCap w s.size 0 e)).size, (bytesRow s (grownCap w s.size 0 e)).size + 1))
    have hds : s.data.toList.length = s.size := by rw [Array.length_toList]; rfl
    rw [show w.drew.heap.size = w.heap.size from rfl] at hlook
    refine ⟨by rw [bvs_length, hds, Nat.mul_one], .inr ⟨w.heap.size, 0, _, rfl, Nat.le_refl _, by simp, hge, grownCap_le_maxLen w s.size 0 e hsz.max, fun j u hj => ?_, fun j hj => ?_, fun j hj => ?_⟩⟩
    · rw [cell_of_row _ _ _ _ _ _ hlook, Nat.zero_add]
      have hjl : j < s.size := by have := (List.getElem?_eq_some_iff.1 hj).1; rw [bvs_length] at this; omega
      unfold bytesRow
      rw [Array.getElem?_append_left (by simp; exact hjl)]
      simp only [bvs, List.getElem?_map, Array.getElem?_toList] at hj
      simp only [Array.getElem?_map]
      exact hj
    · rw [cell_of_row _ _ _ _ _ _ hlook, Nat.zero_add, Array.getElem?_eq_getElem (by omega)]; rfl
    · unfold World.frozen?
      simp only [hlook, Nat.zero_add]
      simp; omega
  · exact (Below.refl _ _).drew.alloc (Nat.le_refl _) _
/-- []byte(s), as an equation. -/
theorem run_str_bytes {P : Program} {w : World} (src dst e : TypeId) {s : ByteArray} (hs : P.underlying src = some .string) (hd : P.underlying dst = some (.slice e)) (he : P.underlying e = some (.int .u8)) (hsz : Fits s.size) :
    ∃ v' w', (convert src dst (.string s)).run P w = .ok v' w' ∧ Own w' w.heap.size 1 v' s.size (bvs s.data.toList) ∧ Below w.heap.size w w' := by
  refine ⟨_, _, run_bytes_of_string (P := P) w src dst e s hs hd he, ?_, (Below.refl _ _).drew.alloc (Nat.le_refl _) _⟩
  have hge := grownCap_ge w s.size 0 e
  have hsz2 : (bytesRow s (grownCap w s.size 0 e)).size = grownCap w s.size 0 e := by
    simp only [bytesRow, Array.size_append, Array.size_map, Array.size_replicate]
    have : s.data.size = s.size := rfl
    omega
  have hlook := heap_alloc_new w.drew (.cells (bytesRow s (grownCap w s.size 0 e)) e ((bytesRow s (grownCap w s.size 0 e)).size, (bytesRow s (grownCap w s.size 0 e)).size + 1))
  have hds : s.data.toList.length = s.size := by rw [Array.length_toList]; rfl
  rw [show w.drew.heap.size = w.heap.size from rfl] at hlook
  refine ⟨by rw [bvs_length, hds, Nat.mul_one], .inr ⟨w.heap.size, 0, _, rfl, Nat.le_refl _, by simp, hge, grownCap_le_maxLen w s.size 0 e hsz.max, fun j u hj => ?_, fun j hj => ?_, fun j hj => ?_⟩⟩
  · rw [cell_of_row _ _ _ _ _ _ hlook, Nat.zero_add]
    have hjl : j < s.size := by have := (List.getElem?_eq_some_iff.1 hj).1; rw [bvs_length] at this; omega
    unfold bytesRow
    rw [Array.getElem?_append_left (by simp; exact hjl)]
    simp only [bvs, List.getElem?_map, Array.getElem?_toList] at hj
    simp only [Array.getElem?_map]
    exact hj
  · rw [cell_of_row _ _ _ _ _ _ hlook, Nat.zero_add, Array.getElem?_eq_getElem (by omega)]; rfl
  · unfold World.frozen?
    simp only [hlook, Nat.zero_add]
    simp; omega
/-- string(b). -/
theorem wpList_bytes_str {P : Program} {ops : Array Oper} {rest : List Oper} {o : Oper} {a : Act} {Q : Exit → Act → World → Prop} {w : World} (hw : Region.wanted o (yielded ops a.tmps) = true) (x : Operand) (src dst : TypeId)
    (ho : o.op = .convert src dst x) {v : Value} (hx : a.eval x = v) {l : List UInt8} {n : Nat} (hv : Sl w 1 v n (bvs l)) (e : TypeId) (hd : P.underlying dst = some .string) (hs : P.underlying src = some (.slice e)) (he : P.underlying e = some (.int .u8))
    (h : wpList P ops Q rest (a.put o.dst (.string ⟨l.toArray⟩)) w) :
    wpList P ops Q (o :: rest) a w := by
  refine wpList_wanted hw fun K hK => ?_
  have hr : (convert src dst v).run P w = .ok (.string ⟨l.toArray⟩) w := by
    obtain ⟨hl, ad, cap, rfl, hn, hm, h0, h1⟩ := hv
    have hln : l.length = n := by simpa [bvs] using hl
    subst hln
    rcases h1 with hz | ⟨g, of, rfl, hg, hc⟩
    · obtain rfl : l = [] := List.eq_nil_of_length_eq_zero hz
      rw [run_convert_bytes_string w src dst e ad _ cap hs he hd]
      cases ad <;> simp [Conv.bytesToString] <;> rfl
    · refine run_convert_bytes_back w src dst e ⟨g, of, none⟩ cap l hs he hd fun j hj => ?_
      rw [Addr.add_lit]
      exact hc j _ (bvs_get l j hj)
  unfold Oper.wp execOp
  simp only [ho, Sem.run_bind, Sem.run_pure, Result.andThen_ok, hx, hr]
  exact hK _ _ h
end Go.Bx
