/- How an argument that came in is opened: structs of integers and strings, flat. No condition. -/
import Derived.Test.YtbhflfdlkiihgaaRowB
import Derived.Test.YtbhflfdlkiihgaaSxR
namespace Go.Bx
open Go Go.RowKit Go.ChangeShapes Go.WideShapes Go.ChangeAt Go.Sx
/-- A type's cells, flat. -/
def flatF (P : Program) (r : TypeId → Option (List CK)) (tot : Nat) : List Field → Nat → Option (List CK)
  | [], o => if o = tot then some [] else none
  | f :: fs, o => if f.offset = o then match r f.type with
      | some ks => if P.cellsOf f.type = ks.length then match flatF P r tot fs (o + ks.length) with
          | some l => some (ks ++ l)
          | none => none
        else none
      | none => none
    else none
def repN (ks : List CK) : Nat → List CK
  | 0 => []
  | n + 1 => ks ++ repN ks n
def flatK (P : Program) : Nat → TypeId → Option (List CK)
  | 0, _ => none
  | n + 1, t => match P.underlying t with
    | some .bool => some [.bool]
    | some (.int k) => some [.int k]
    | some .string => some [.str]
    | some (.array m e) => match flatK P n e with
      | some ks => if P.cellsOf e = ks.length ∧ P.cellsOf t = m * ks.length then some (repN ks m) else none
      | none => none
    | some (.struct fs) => flatF P (flatK P n) (P.cellsOf t) fs.toList 0
    | _ => none
/-- Cells that are integers, truth values, strings. -/
def Fl (ks : List CK) (cs : List Value) : Prop := ∃ zs : List Int, zs.length = ks.length ∧ cs = ckVals (fun i => zs.getD i 0) 0 ks ∧ ckGoods (fun i => zs.getD i 0) 0 ks
theorem ckVals_from {g g' : Nat → Int} : ∀ (ks : List CK) (o o' : Nat), (∀ i, i < ks.length → g (o + i) = g' (o' + i)) → ckVals g o ks = ckVals g' o' ks
  | [], _, _, _ => rfl
  | k :: ks, o, o', h => by
    simp only [ckVals]
    rw [show g o = g' o' from h 0 (by simp), ckVals_from ks (o + 1) (o' + 1) fun i hi => by have := h (i + 1) (by simp; omega); rw [show o + 1 + i = o + (i + 1) from by omega, show o' + 1 + i = o' + (i + 1) from by omega]; exact this]
theorem ckGoods_from {g g' : Nat → Int} : ∀ (ks : List CK) (o o' : Nat), (∀ i, i < ks.length → g (o + i) = g' (o' + i)) → ckGoods g o ks → ckGoods g' o' ks
  | [], _, _, _, _ => trivial
  | k :: ks, o, o', h, hg => ⟨by rw [← show g o = g' o' from h 0 (by simp)]; exact hg.1, ckGoods_from ks (o + 1) (o' + 1) (fun i hi => by have := h (i + 1) (by simp; omega); rw [show o + 1 + i = o + (i + 1) from by omega, show o' + 1 + i = o' + (i + 1) from by omega]; exact this) hg.2⟩
theorem ckVals_app (g : Nat → Int) : ∀ (ks l : List CK) (o : Nat), ckVals g o (ks ++ l) = ckVals g o ks ++ ckVals g (o + ks.length) l
  | [], _, _ => rfl
  | k :: ks, l, o => by
    simp only [List.cons_append, ckVals, List.length_cons]
    rw [ckVals_app g ks l (o + 1), show o + 1 + ks.length = o + (ks.length + 1) from by omega]
theorem ckGoods_app {g : Nat → Int} : ∀ (ks l : List CK) (o : Nat), ckGoods g o ks → ckGoods g (o + ks.length) l → ckGoods g o (ks ++ l)
  | [], _, _, _, h => h
  | k :: ks, l, o, h, h2 => ⟨h.1, ckGoods_app ks l (o + 1) h.2 (by rw [show o + 1 + ks.length = o + (ks.length + 1) from by omega]; exact h2)⟩
theorem Fl.nil : Fl [] [] := ⟨[], rfl, rfl, trivial⟩
theorem Fl.app {k l : List CK} {c d : List Value} (h : Fl k c) (h2 : Fl l d) : Fl (k ++ l) (c ++ d) := by
  obtain ⟨z, z1, rfl, z3⟩ := h
  obtain ⟨y, y1, rfl, y3⟩ := h2
  have e1 : ∀ i, i < k.length → z.getD (0 + i) 0 = (z ++ y).getD (0 + i) 0 := fun i hi => by
    rw [Nat.zero_add, List.getD_eq_getElem?_getD, List.getD_eq_getElem?_getD, List.getElem?_append_left (by omega)]
  have e2 : ∀ i, i < l.length → y.getD (0 + i) 0 = (z ++ y).getD (0 + k.length + i) 0 := fun i hi => by
    rw [Nat.zero_add, Nat.zero_add, List.getD_eq_getElem?_getD, List.getD_eq_getElem?_getD, List.getElem?_append_right (by omega), z1, Nat.add_sub_cancel_left]
  refine ⟨z ++ y, by simp [z1, y1], ?_, ?_⟩
  · rw [ckVals_app]
    congr 1
    · exact ckVals_from k 0 0 e1
    · exact ckVals_from l 0 (0 + k.length) e2
  · exact ckGoods_app _ _ _ (ckGoods_from k 0 0 e1 z3) (ckGoods_from l 0 (0 + k.length) e2 y3)
theorem InR.ofWf {k : IntKind} {z : Int} (h : (Lit.int k z).wf = true) : InR k z := by
  cases k <;> simp [Lit.wf, IntKind.min, IntKind.max, IntKind.signed, IntKind.bits] at h <;> exact ⟨by simp only [lo]; omega, by simp only [hi]; omega⟩
section
variable {H : Type} {enc : TypeId × Value → H} {P : Program} {w : World} {b0 : Nat} {spare : Nat → Bool} {held : Bool}
theorem flat_fields {r : TypeId → Option (List CK)} {tot : Nat} (hr : ∀ t ks, r t = some ks → ∀ fuel cs x, DataW.trod enc P w b0 spare held fuel t cs = some x → Fl ks cs) {cs : List Value} (hl : cs.length = tot) :
    ∀ (fs : List Field) (o : Nat) (ks : List CK), flatF P r tot fs o = some ks → (∀ f ∈ fs, ∃ fuel x, DataW.trod enc P w b0 spare held fuel f.type ((cs.drop f.offset).take (P.cellsOf f.type)) = some x) → Fl ks (cs.drop o)
  | [], o, ks, h, _ => by
    simp only [flatF] at h
    split at h
    · rename_i e; cases h; rw [e, ← hl, List.drop_length]; exact Fl.nil
    · cases h
  | f :: fs, o, ks, h, hf => by
    simp only [flatF] at h
    split at h
    · rename_i e
      split at h
      · rename_i k hk
        split at h
        · rename_i hc
          split at h
          · rename_i l hl2
            cases h
            obtain ⟨fuel, x, hx⟩ := hf f (by simp)
            have h1 := hr _ _ hk _ _ _ hx
            rw [e, hc] at h1
            have h2 := flat_fields hr hl fs _ _ hl2 fun g hg => hf g (by simp [hg])
            rw [← List.drop_drop] at h2
            have := h1.app h2
            rwa [List.take_append_drop] at this
          · cases h
        · cases h
      · cases h
    · cases h
theorem flat_rep {ks : List CK} {cs : List Value} {m : Nat} (hl : cs.length = m * ks.length) (h : ∀ i, i < m → Fl ks ((cs.drop (i * ks.length)).take ks.length)) : ∀ j, j ≤ m → Fl (repN ks j) (cs.drop ((m - j) * ks.length))
  | 0, _ => by rw [Nat.sub_zero, ← hl, List.drop_length]; exact Fl.nil
  | j + 1, hj => by
    have h1 := h (m - (j + 1)) (by omega)
    have h2 := flat_rep hl h j (by omega)
    rw [show (m - j) * ks.length = (m - (j + 1)) * ks.length + ks.length from by rw [← Nat.succ_mul]; congr 1; omega, ← List.drop_drop] at h2
    have := h1.app h2
    rwa [List.take_append_drop] at this
theorem trod_flat : ∀ (n : Nat) (t : TypeId) (ks : List CK), flatK P n t = some ks → ∀ fuel cs x, DataW.trod enc P w b0 spare held fuel t cs = some x → Fl ks cs
  | 0, _, _, h, _, _, _, _ => by simp [flatK] at h
  | n + 1, t, ks, h, fuel, cs, x, hx => by
    simp only [flatK] at h
    split at h
    · rename_i ht; cases h
      obtain ⟨b, rfl, _⟩ := DataW.trod_bool ht hx
      exact ⟨[b2i b], rfl, by show [Value.bool b] = [Value.bool (decide (b2i b ≠ 0))]; rw [b2i_ne], trivial, trivial⟩
    · rename_i k ht; cases h
      obtain ⟨z, rfl, _, hw⟩ := DataW.trod_int ht hx
      exact ⟨[z], rfl, rfl, InR.ofWf hw, trivial⟩
    · rename_i ht; cases h
      obtain ⟨s, rfl, _, hs⟩ := DataW.trod_string ht hx
      refine ⟨[codZ s.data.toList], rfl, ?_, Str.cod (by simpa using hs), trivial⟩
      show [Value.string s] = [Value.string ⟨(decZ (codZ s.data.toList)).toArray⟩]
      rw [decZ_codZ]
    · rename_i m e ht
      split at h
      · rename_i k hk
        split at h
        · rename_i hc
          cases h
          obtain ⟨xs, q, _, _, hl, hxl, hi⟩ := DataW.trod_array ht hx
          have := flat_rep (ks := k) (cs := cs) (m := m) (by rw [hl, hc.2]) (fun i hi2 => by
            have h1 := hi i hi2
            rw [hc.1, List.getElem?_eq_getElem (by omega)] at h1
            exact trod_flat n e k hk _ _ _ h1) m (Nat.le_refl _)
          rwa [Nat.sub_self, Nat.zero_mul, List.drop_zero] at this
        · cases h
      · cases h
    · rename_i fs ht
      obtain ⟨xs, q, _, _, hl, hxl, hi⟩ := DataW.trod_struct ht hx
      have := flat_fields (r := flatK P n) (fun t ks h fuel cs x hx => trod_flat n t ks h fuel cs x hx) hl fs.toList 0 ks h fun f hf => by
        obtain ⟨i, hi1, hi2⟩ := List.mem_iff_getElem.1 hf
        have h1 := hi i f (by rw [← hi2]; simp)
        have hi1 : i < fs.size := by simpa using hi1
        rw [List.getElem?_eq_getElem (by omega)] at h1
        exact ⟨_, _, h1⟩
      rwa [List.drop_zero] at this
    · cases h
/-- A struct that came in. -/
theorem open_flat {r : Reach} {base : Nat} {t : TypeId} {fs : Array Field} {v : Value} {d : DataW H} {p : List MemPlace} (n : Nat) {ks : List CK} (ht : P.underlying t = some (.struct fs)) (hk : flatK P n t = some ks)
    (hv : Value.okWide P w r base t v) (h : DataW.Trod enc P w b0 spare held t v d p) (w' : World) : ∃ x, ArgIs w' (.cells ks) v x := by
  unfold Value.okWide at hv
  rw [ht] at hv
  obtain ⟨cs, rfl, _⟩ := hv
  obtain ⟨fuel, hf⟩ := h
  obtain ⟨zs, h1, h2, h3⟩ := trod_flat n t ks hk _ _ _ hf
  refine ⟨zs, h1, ?_, h3⟩
  have h2 : cs.toList = _ := h2
  rw [← h2]
end
end Go.Bx
