/- How an argument that came in is opened: arrays of integers, bytes in memory. No condition. -/
import Derived.Test.YtbhflfdlkiihgaaBase
import Derived.ProofKit
import Derived.OpenShut
namespace Go.Bx
open Go Go.RowKit Go.ChangeShapes Go.WideShapes Go.ChangeAt

theorem I64.ofWf {a : Int} (h : (Lit.int .i64 a).wf = true) : I64 a := by
  simp [Lit.wf, IntKind.min, IntKind.max, IntKind.signed, IntKind.bits] at h
  exact ⟨by omega, by omega⟩
theorem u8_ofWf {a : Int} (h : (Lit.int .u8 a).wf = true) : 0 ≤ a ∧ a < 256 := by
  simp [Lit.wf, IntKind.min, IntKind.max, IntKind.signed, IntKind.bits] at h
  omega
theorem i32_ofWf {a : Int} (h : (Lit.int .i32 a).wf = true) : -2147483648 ≤ a ∧ a < 2147483648 := by
  simp [Lit.wf, IntKind.min, IntKind.max, IntKind.signed, IntKind.bits] at h
  omega
theorem u32_ofWf {a : Int} (h : (Lit.int .u32 a).wf = true) : 0 ≤ a ∧ a < 4294967296 := by
  simp [Lit.wf, IntKind.min, IntKind.max, IntKind.signed, IntKind.bits] at h
  omega
theorem u64_ofWf {a : Int} (h : (Lit.int .u64 a).wf = true) : 0 ≤ a ∧ a < 18446744073709551616 := by
  simp [Lit.wf, IntKind.min, IntKind.max, IntKind.signed, IntKind.bits] at h
  omega
theorem bytes_of {zs : List Int} (h : ∀ n ∈ zs, (Lit.int .u8 n).wf = true) : ∃ l : List UInt8, zs.map (Value.int .u8) = bvs l ∧ l.length = zs.length := by
  refine ⟨zs.map fun z => UInt8.ofNat z.toNat, ?_, by simp⟩
  simp only [bvs, List.map_map]
  refine List.map_congr_left fun z hz => ?_
  obtain ⟨h0, h1⟩ := u8_ofWf (h z hz)
  exact bv_ofInt z h0 h1
section
variable {H : Type} {enc : TypeId × Value → H} {P : Program} {w : World} {b0 : Nat} {spare : Nat → Bool} {held : Bool}
/-- An array of integers by value. -/
theorem open_arr {r : Reach} {base : Nat} {t e : TypeId} {n : Nat} {k : IntKind} {v : Value} {d : DataW H} {p : List MemPlace} (ht : P.underlying t = some (.array n e)) (he : P.underlying e = some (.int k)) (hce : P.cellsOf e = 1) (hct : P.cellsOf t = n)
    (hv : Value.okWide P w r base t v) (h : DataW.Trod enc P w b0 spare held t v d p) :
    ∃ l : List Int, v = .agg (l.map (Value.int k)).toArray ∧ l.length = n ∧ ∀ x ∈ l, (Lit.int k x).wf = true := by
  unfold Value.okWide at hv
  rw [ht] at hv
  obtain ⟨cs, rfl, hsz, _⟩ := hv
  obtain ⟨fuel, hf⟩ := h
  obtain ⟨xs, m, rfl, hx, hl, hxl, hi⟩ := DataW.trod_array ht hf
  have key : ∀ i (hlt : i < n), ∃ z, cs[i]? = some (.int k z) ∧ (Lit.int k z).wf = true := by
    intro i hlt
    have h1 := hi i hlt
    rw [hce, Nat.mul_one, List.getElem?_eq_getElem (by omega)] at h1
    obtain ⟨z, hz1, _, hz3⟩ := DataW.trod_int he h1
    refine ⟨z, ?_, hz3⟩
    have hlt2 : i < cs.size := by omega
    have e1 : cs.toList.drop i = cs.toList[i]'(by simpa using hlt2) :: cs.toList.drop (i + 1) := List.drop_eq_getElem_cons (by simpa using hlt2)
    rw [show (Value.agg cs).cells = cs from rfl, e1, List.take_succ_cons, List.take_zero] at hz1
    rw [Array.getElem?_eq_getElem hlt2]
    simpa using hz1
  have hget : ∀ i, i < n → ∃ z, (cs.toList.map fun c => intOf c)[i]? = some z ∧ cs[i]? = some (.int k z) ∧ (Lit.int k z).wf = true := by
    intro i hlt
    obtain ⟨z, hz, hw⟩ := key i hlt
    exact ⟨z, by rw [List.getElem?_map, Array.getElem?_toList, hz]; rfl, hz, hw⟩
  refine ⟨cs.toList.map fun c => intOf c, ?_, by simp; omega, fun x hx => ?_⟩
  · congr 1
    apply Array.ext'
    apply List.ext_getElem?
    intro i
    by_cases hlt : i < n
    · obtain ⟨z, h1, h2, _⟩ := hget i hlt
      simp only [List.getElem?_map, h1, Option.map_some]
      rw [Array.getElem?_toList, h2]
    · have h1 : cs.toList.length ≤ i := by simp; omega
      rw [List.getElem?_eq_none h1, List.getElem?_eq_none (by simp; omega)]
  · obtain ⟨i, hlt, hi2⟩ := List.mem_iff_getElem.1 hx
    have hlt2 : i < n := by simp at hlt; omega
    obtain ⟨z, h1, _, h3⟩ := hget i hlt2
    rw [List.getElem?_eq_getElem hlt] at h1
    cases h1
    rw [hi2] at h3
    exact h3
/-- Bytes of an array by value. -/
theorem open_arrB {r : Reach} {base : Nat} {t e : TypeId} {n : Nat} {v : Value} {d : DataW H} {p : List MemPlace} (ht : P.underlying t = some (.array n e)) (he : P.underlying e = some (.int .u8)) (hce : P.cellsOf e = 1) (hct : P.cellsOf t = n)
    (hv : Value.okWide P w r base t v) (h : DataW.Trod enc P w b0 spare held t v d p) : ∃ l : List UInt8, v = .agg (bvs l).toArray ∧ l.length = n := by
  obtain ⟨zs, rfl, hl, hw⟩ := open_arr ht he hce hct hv h
  obtain ⟨l, h1, h2⟩ := bytes_of hw
  exact ⟨l, by rw [h1], by omega⟩
/-- A slice of bytes that came in. -/
theorem open_sliceB {r : Reach} {base : Nat} {t e : TypeId} {v : Value} {d : DataW H} {p : List MemPlace} (ht : P.underlying t = some (.slice e)) (he : P.underlying e = some (.int .u8)) (hce : P.cellsOf e = 1)
    (hv : Value.okWide P w r base t v) (h : DataW.Trod enc P w b0 spare held t v d p) : ∃ l : List UInt8, Sl w 1 v l.length (bvs l) := by
  obtain ⟨a, n, cap, rfl⟩ := okWide_slice ht hv
  obtain ⟨fuel, hf⟩ := h
  rcases open_ints ht he hce hf with ⟨hcs, _⟩ | ⟨x, l, c, zs, hcs, _, hl, hm, hz, _, hcell, hwz⟩
  · simp [Value.cells] at hcs
    obtain ⟨rfl, rfl, rfl⟩ := hcs
    exact ⟨[], Sl.zero _ _⟩
  · simp [Value.cells] at hcs
    obtain ⟨rfl, rfl, rfl⟩ := hcs
    obtain ⟨lb, h1, h2⟩ := bytes_of hwz
    have hz : n ≤ zs.length := by rw [hz]; split <;> omega
    have hlen : (lb.take n).length = n := by rw [List.length_take]; omega
    refine ⟨lb.take n, ?_⟩
    rw [hlen]
    refine ⟨by rw [bvs_length, hlen, Nat.mul_one], _, cap, rfl, hl, hm, (by intro h; cases h), ?_⟩
    by_cases h0 : n = 0
    · exact .inl h0
    · have hc0 := hcell 0 (by omega)
      have hsp : x.spot = none := by
        unfold World.cell? Addr.add at hc0
        simp only [if_true] at hc0
        split at hc0
        · split at hc0
          · cases hc0
          · cases hx : x.spot with
            | none => rfl
            | some s => simp_all
        · cases hc0
      obtain ⟨g, o, sp⟩ := x
      simp only at hsp
      subst hsp
      refine .inr ⟨g, o, rfl, block_lt_of_cell hc0, fun j u hj => ?_⟩
      have hjn : j < n := by have := (List.getElem?_eq_some_iff.1 hj).1; rw [bvs_length, hlen] at this; exact this
      have := hcell j (by omega)
      rw [Addr.add_lit] at this
      rw [this, ← hj, ← bvs_take, List.getElem?_take_of_lt (by omega), ← h1, List.getElem?_map, List.getElem?_eq_getElem (by omega)]
      simp [List.getD, List.getElem?_eq_getElem (show j < zs.length by omega)]
/-- A struct of two integers by value. -/
theorem open_two {r : Reach} {base : Nat} {t : TypeId} {f0 f1 : Field} {k0 k1 : IntKind} {v : Value} {d : DataW H} {p : List MemPlace} (ht : P.underlying t = some (.struct #[f0, f1])) (hct : P.cellsOf t = 2) (hc : (f0.offset, f1.offset, P.cellsOf f0.type, P.cellsOf f1.type) = (0, 1, 1, 1))
    (e0 : P.underlying f0.type = some (.int k0)) (e1 : P.underlying f1.type = some (.int k1)) (hv : Value.okWide P w r base t v) (h : DataW.Trod enc P w b0 spare held t v d p) :
    ∃ x y : Int, v = .agg #[.int k0 x, .int k1 y] ∧ (Lit.int k0 x).wf = true ∧ (Lit.int k1 y).wf = true := by
  unfold Value.okWide at hv
  rw [ht] at hv
  obtain ⟨cs, rfl, hsz, _⟩ := hv
  simp only [Prod.mk.injEq] at hc
  obtain ⟨o0, o1, c0, c1⟩ := hc
  obtain ⟨fuel, hf⟩ := h
  obtain ⟨y0, y1, m, _, hl, h0, h1⟩ := trod_struct2 ht hf
  rw [hct] at hsz
  obtain ⟨l⟩ := cs
  match l, hsz with
  | [u0, u1], _ =>
    rw [o0, c0] at h0
    rw [o1, c1] at h1
    obtain ⟨x, hx, _, hwx⟩ := DataW.trod_int e0 h0
    obtain ⟨y, hy, _, hwy⟩ := DataW.trod_int e1 h1
    simp only [Value.cells, List.drop_zero, List.drop_succ_cons, List.take_succ_cons, List.take_zero, List.cons.injEq, and_true] at hx hy
    exact ⟨x, y, by rw [hx, hy], hwx, hwy⟩
end
end Go.Bx
