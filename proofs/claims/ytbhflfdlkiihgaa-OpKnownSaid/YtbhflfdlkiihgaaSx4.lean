/- The pure steps of a walk, over names: addresses, parts, literals, conversions. No condition. -/
import Derived.Test.YtbhflfdlkiihgaaSx3
namespace Go.Sx
open Go Go.RowKit Go.Bx

section
variable {P : Program} {E : Env}
theorem rel_ptr {b off : Nat} {v : Value} (h : (SV.c (.ptr b off)).Rel E v) : ∃ g, E.blk b = some g ∧ v = .pointer (some ⟨g, off, none⟩) := by
  obtain ⟨h1, h2⟩ := h
  obtain ⟨g, hg⟩ := Option.isSome_iff_exists.1 h2
  exact ⟨g, hg, by rw [h1, C.den, hg]⟩
theorem ptr_rel {b g : Nat} (off : Nat) (h : E.blk b = some g) : (SV.c (.ptr b off)).Rel E (.pointer (some ⟨g, off, none⟩)) :=
  ⟨by rw [C.den, h], by rw [C.ok, h]; rfl⟩
theorem rel_slc {b off len cap : Nat} {v : Value} (h : (SV.c (.slc b off len cap)).Rel E v) : ∃ g, E.blk b = some g ∧ v = .slice (some ⟨g, off, none⟩) len cap := by
  obtain ⟨h1, h2⟩ := h
  obtain ⟨g, hg⟩ := Option.isSome_iff_exists.1 h2
  exact ⟨g, hg, by rw [h1, C.den, hg]⟩
theorem slc_rel {b g : Nat} (off len cap : Nat) (h : E.blk b = some g) : (SV.c (.slc b off len cap)).Rel E (.slice (some ⟨g, off, none⟩) len cap) :=
  ⟨by rw [C.den, h], by rw [C.ok, h]; rfl⟩
def litNat : SV → Option Nat
  | .c (.int _ (.l (.ofNat n))) => some n
  | _ => none
theorem litNat_ok {s : SV} {n : Nat} (h : litNat s = some n) {v : Value} (hv : s.Rel E v) : ∃ k, v = .int k (n : Int) := by
  unfold litNat at h
  split at h
  · cases h; exact ⟨_, hv.1⟩
  · cases h
def sizeX (P : Program) (t : TypeId) : Option Nat := (P.info? t).map (·.size)
theorem sizeX_run {t : TypeId} {n : Nat} (h : sizeX P t = some n) (w : World) : (sizeOf t).run P w = .ok n w := by
  obtain ⟨i, hi, rfl⟩ := Option.map_eq_some_iff.1 h
  simp [sizeOf, typeInfo, hi]

def idxAddr (P : Program) (t : TypeId) (x i : SV) : Option SV :=
  match litNat i with
  | none => none
  | some n => match x with
    | .c (.ptr b off) => match P.underlying t with
      | some (.array len e) => match sizeX P e with
        | some s => if Nat.blt n len then some (.c (.ptr b (off + n * s))) else none
        | none => none
      | _ => none
    | .c (.slc b off len _) => match P.underlying t with
      | some (.slice e) => match sizeX P e with
        | some s => if Nat.blt n len then some (.c (.ptr b (off + n * s))) else none
        | none => none
      | _ => none
    | _ => none
theorem blt_lt {a b : Nat} (h : Nat.blt a b = true) : a < b := Nat.le_of_ble_eq_true h
theorem idxAddr_ok {t : TypeId} {x i s : SV} (h : idxAddr P t x i = some s) {u v : Value} (hx : x.Rel E u) (hi : i.Rel E v) : ∃ r, s.Rel E r ∧ ∀ w, (Instr.indexAt t u v).run P w = .ok r w := by
  unfold idxAddr at h
  split at h
  · cases h
  · rename_i n hn
    obtain ⟨k, rfl⟩ := litNat_ok hn hi
    split at h
    · rename_i b off
      obtain ⟨g, hg, rfl⟩ := rel_ptr hx
      split at h
      · rename_i len e hu
        split at h
        · rename_i sz hs
          split at h
          · rename_i hb
            cases h
            have hlt := blt_lt hb
            refine ⟨_, ptr_rel _ hg, fun w => ?_⟩
            simp [Instr.indexAt, asIntOf, run_underlying hu, Instr.sureAddr, sizeX_run hs, hlt, Addr.add_lit]
          · cases h
        · cases h
      · cases h
    · rename_i b off len cap
      obtain ⟨g, hg, rfl⟩ := rel_slc hx
      split at h
      · rename_i e hu
        split at h
        · rename_i sz hs
          split at h
          · rename_i hb
            cases h
            have hlt := blt_lt hb
            refine ⟨_, ptr_rel _ hg, fun w => ?_⟩
            simp [Instr.indexAt, asIntOf, run_underlying hu, sizeX_run hs, hlt, Addr.add_lit]
          · cases h
        · cases h
      · cases h
    · cases h
def idxVar (P : Program) (t : TypeId) (x i : SV) : Option (SV × List Fact) :=
  match i with
  | .c (.int _ (.v i)) => match x with
    | .c (.ptr b off) => match P.underlying t with
      | some (.array len e) => match sizeX P e with
        | some 1 => some (.c (.ptrx b off len i), [.idx i len])
        | _ => none
      | _ => none
    | .c (.slc b off len _) => match P.underlying t with
      | some (.slice e) => match sizeX P e with
        | some 1 => some (.c (.ptrx b off len i), [.idx i len])
        | _ => none
      | _ => none
    | _ => none
  | _ => none
theorem idxVar_ok {fns : Fns} {t : TypeId} {x i s : SV} {fs : List Fact} (h : idxVar P t x i = some (s, fs)) (hf : ∀ f ∈ fs, Fact.ok fns E.ρ f) {u v : Value} (hx : x.Rel E u) (hi : i.Rel E v) : ∃ r, s.Rel E r ∧ ∀ w, (Instr.indexAt t u v).run P w = .ok r w := by
  unfold idxVar at h
  split at h
  · rename_i k i
    have ev := hi.1
    rw [C.den, Ref.den] at ev
    split at h
    · rename_i b off
      obtain ⟨g, hg, rfl⟩ := rel_ptr hx
      split at h
      · rename_i len e hu
        split at h
        · rename_i hs
          cases h
          have hfact := hf _ (List.mem_singleton.2 rfl)
          simp only [Fact.ok] at hfact
          refine ⟨.pointer (some ⟨g, off + (E.ρ i).toNat, none⟩), ⟨by rw [C.den, hg], by rw [C.ok, hg]; exact ⟨rfl, hfact⟩⟩, fun w => ?_⟩
          rw [ev]
          simp [Instr.indexAt, asIntOf, run_underlying hu, Instr.sureAddr, sizeX_run hs, hfact.1, hfact.2, Addr.add_lit]
        · cases h
      · cases h
    · rename_i b off len cap
      obtain ⟨g, hg, rfl⟩ := rel_slc hx
      split at h
      · rename_i e hu
        split at h
        · rename_i hs
          cases h
          have hfact := hf _ (List.mem_singleton.2 rfl)
          simp only [Fact.ok] at hfact
          refine ⟨.pointer (some ⟨g, off + (E.ρ i).toNat, none⟩), ⟨by rw [C.den, hg], by rw [C.ok, hg]; exact ⟨rfl, hfact⟩⟩, fun w => ?_⟩
          rw [ev]
          simp [Instr.indexAt, asIntOf, run_underlying hu, sizeX_run hs, hfact.1, hfact.2, Addr.add_lit]
        · cases h
      · cases h
    · cases h
  · cases h
def idxSel (P : Program) (t : TypeId) (x i : SV) (n : Nat) : Option (SV × List Fact) :=
  match i, x with
  | .c (.int _ (.v i)), .agg l => match P.underlying t with
    | some (.array len e) => match P.underlying e, sizeX P e with
      | some (.int k), some 1 => match refsOf k l with
        | some rs => if Nat.beq rs.length len then some (.c (.int k (.v n)), [.idx i len, .sel n rs i]) else none
        | none => none
      | _, _ => none
    | _ => none
  | _, _ => none
theorem sel_in {k : IntKind} {l : List Ref} (h : ∀ z ∈ l.map (Ref.den E.ρ), InR k z) {j : Nat} (hj : j < l.length) : InR k ((l.map (Ref.den E.ρ)).getD j 0) := by
  rw [List.getD_eq_getElem?_getD, List.getElem?_eq_getElem (by simpa using hj)]
  exact h _ (List.getElem_mem _)
theorem idxSel_ok {fns : Fns} {t : TypeId} {x i s : SV} {n : Nat} {fs : List Fact} (h : idxSel P t x i n = some (s, fs)) (hf : ∀ f ∈ fs, Fact.ok fns E.ρ f) {u v : Value} (hx : x.Rel E u) (hi : i.Rel E v) : ∃ r, s.Rel E r ∧ ∀ w, (Instr.index t u v).run P w = .ok r w := by
  unfold idxSel at h
  split at h
  · rename_i k i l
    have ev := hi.1
    rw [C.den, Ref.den] at ev
    obtain ⟨rfl, hl⟩ := hx
    split at h
    · rename_i len e hu
      split at h
      · rename_i k2 he hs
        split at h
        · rename_i rs hr
          split at h
          · rename_i hb
            cases h
            obtain ⟨e1, e2, e3⟩ := refsOf_ok (E := E) hr
            have hlen := Nat.eq_of_beq_eq_true hb
            have f1 := hf (.idx i len) (by simp)
            have f2 := hf (.sel n rs i) (by simp)
            simp only [Fact.ok] at f1 f2
            have hj : (E.ρ i).toNat < rs.length := by omega
            refine ⟨.int k2 (E.ρ n), ⟨rfl, ?_⟩, fun w => ?_⟩
            · show InR k2 (E.ρ n)
              rw [f2]; exact sel_in (e3 hl) hj
            · rw [ev, e1]
              have hagg : (isAgg e).run P w = .ok false w := by
                unfold isAgg; rw [Sem.run_bind, run_underlying he w]; rfl
              have hq : rs[(E.ρ i).toNat]? = some rs[(E.ρ i).toNat] := List.getElem?_eq_getElem hj
              have hE : Ref.den E.ρ rs[(E.ρ i).toNat] = E.ρ n := by
                rw [f2, List.getD_eq_getElem?_getD, List.getElem?_map, hq]; rfl
              simp [Instr.index, asIntOf, run_underlying hu, sizeX_run hs, f1.1, f1.2, part, hagg, hq, hE]
          · cases h
        · cases h
      · cases h
    · cases h
  · cases h
def fldAddr (P : Program) (t : TypeId) (x : SV) (f : Nat) : Option SV :=
  match x with
  | .c (.ptr b off) => match P.underlying t with
    | some (.struct fields) => match fields[f]? with
      | some fl => match sizeX P fl.type with
        | some (_ + 1) => some (.c (.ptr b (off + fl.offset)))
        | _ => none
      | none => none
    | _ => none
  | _ => none
theorem fldAddr_ok {t : TypeId} {x s : SV} {f : Nat} (h : fldAddr P t x f = some s) {u : Value} (hx : x.Rel E u) : ∃ r, s.Rel E r ∧ ∀ w, (Instr.fieldAt t u f).run P w = .ok r w := by
  unfold fldAddr at h
  split at h
  · rename_i b off
    obtain ⟨g, hg, rfl⟩ := rel_ptr hx
    split at h
    · rename_i fields hu
      split at h
      · rename_i fl hfl
        split at h
        · rename_i sz hs
          cases h
          refine ⟨_, ptr_rel _ hg, fun w => ?_⟩
          simp [Instr.fieldAt, run_underlying hu, hfl, Instr.sureAddr, fieldPlace, sizeX_run hs, Addr.add_lit]
        · cases h
      · cases h
    · cases h
  · cases h
/-- A part of an array, a struct. -/
def partX (P : Program) (t : TypeId) (l : List C) (off : Nat) : Option SV :=
  match P.underlying t with
  | some d => if d.isRow then
      match sizeX P t with
      | some s => some (.agg ((l.drop off).take s))
      | none => none
    else (l[off]?).map .c
  | none => none
theorem oks_sub {l m : List C} (h : oks E l) (hs : ∀ c ∈ m, c ∈ l) : oks E m := fun c hc => h c (hs c hc)
theorem partX_ok {t : TypeId} {l : List C} {off : Nat} {s : SV} (h : partX P t l off = some s) (hl : oks E l) : ∃ r, s.Rel E r ∧ ∀ w, (part t (dens E l).toArray off).run P w = .ok r w := by
  unfold partX at h
  split at h
  · rename_i d hd
    split at h
    · rename_i hr
      split at h
      · rename_i sz hs
        cases h
        refine ⟨_, ⟨rfl, oks_sub hl fun c hc => List.mem_of_mem_drop (List.mem_of_mem_take hc)⟩, fun w => ?_⟩
        have hagg : (isAgg t).run P w = .ok true w := by
          unfold isAgg; rw [Sem.run_bind, run_underlying hd w]; cases d <;> simp_all
        simp [part, hagg, sizeX_run hs, dens, List.map_take, List.map_drop]
      · cases h
    · rename_i hr
      obtain ⟨c, hc, rfl⟩ := Option.map_eq_some_iff.1 h
      refine ⟨_, ⟨rfl, hl c (List.mem_of_getElem? hc)⟩, fun w => ?_⟩
      have hagg : (isAgg t).run P w = .ok false w := by
        unfold isAgg; rw [Sem.run_bind, run_underlying hd w]; cases d <;> simp_all
      simp [part, hagg, dens, hc]
  · cases h
def idxX (P : Program) (t : TypeId) (x i : SV) : Option SV :=
  match litNat i, x with
  | some n, .agg l => match P.underlying t with
    | some (.array len e) => match sizeX P e with
      | some s => if Nat.blt n len then partX P e l (n * s) else none
      | none => none
    | _ => none
  | _, _ => none
theorem idxX_ok {t : TypeId} {x i s : SV} (h : idxX P t x i = some s) {u v : Value} (hx : x.Rel E u) (hi : i.Rel E v) : ∃ r, s.Rel E r ∧ ∀ w, (Instr.index t u v).run P w = .ok r w := by
  unfold idxX at h
  split at h
  · rename_i n l hn
    obtain ⟨k, rfl⟩ := litNat_ok hn hi
    obtain ⟨rfl, hl⟩ := hx
    split at h
    · rename_i len e hu
      split at h
      · rename_i sz hs
        split at h
        · rename_i hb
          have hlt := blt_lt hb
          obtain ⟨r, hr, hrun⟩ := partX_ok h hl
          refine ⟨r, hr, fun w => ?_⟩
          simp [Instr.index, asIntOf, run_underlying hu, sizeX_run hs, hlt, hrun]
        · cases h
      · cases h
    · cases h
  · cases h
def fldX (P : Program) (t : TypeId) (x : SV) (f : Nat) : Option SV :=
  match x with
  | .agg l => match P.underlying t with
    | some (.struct fields) => match fields[f]? with
      | some fl => partX P fl.type l fl.offset
      | none => none
    | _ => none
  | _ => none
theorem fldX_ok {t : TypeId} {x s : SV} {f : Nat} (h : fldX P t x f = some s) {u : Value} (hx : x.Rel E u) : ∃ r, s.Rel E r ∧ ∀ w, (Instr.field t u f).run P w = .ok r w := by
  unfold fldX at h
  split at h
  · obtain ⟨rfl, hl⟩ := hx
    split at h
    · rename_i fields hu
      split at h
      · rename_i fl hfl
        obtain ⟨r, hr, hrun⟩ := partX_ok h hl
        refine ⟨r, hr, fun w => ?_⟩
        simp [Instr.field, run_underlying hu, hfl, asAgg, hrun]
      · cases h
    · cases h
  · cases h
def extX (x : SV) (i : Nat) : Option SV :=
  match x with
  | .tup l => match l[i]? with
    | some (.inl c) => some (.c c)
    | some (.inr m) => some (.agg m)
    | none => none
  | _ => none
theorem extX_ok {x s : SV} {i : Nat} (h : extX x i = some s) {u : Value} (hx : x.Rel E u) : ∃ r, s.Rel E r ∧ ∀ w, (Instr.extract u i).run P w = .ok r w := by
  unfold extX at h
  split at h
  · rename_i l
    obtain ⟨rfl, hl⟩ := hx
    split at h
    · rename_i c hc
      cases h
      refine ⟨_, ⟨rfl, hl _ (List.mem_of_getElem? hc)⟩, fun w => ?_⟩
      simp [Instr.extract, hc, sumDen]
    · rename_i m hc
      cases h
      refine ⟨_, ⟨rfl, hl _ (List.mem_of_getElem? hc)⟩, fun w => ?_⟩
      simp [Instr.extract, hc, sumDen]
    · cases h
  · cases h
/-- A part of an array in memory. -/
def boundX (x : Option SV) (d : Nat) : Option Nat :=
  match x with
  | none => some d
  | some s => litNat s
def sliceX (P : Program) (t : TypeId) (x : SV) (lo hi : Option SV) : Option SV :=
  match boundX lo 0 with
  | none => none
  | some l => match x with
    | .c (.ptr b off) => match P.underlying t with
      | some (.array n e) => match sizeX P e with
        | none => none
        | some s => match boundX hi n with
          | some k => if Nat.ble l k && Nat.ble k n && (Nat.blt l n || Nat.beq l 0) then some (.c (.slc b (off + l * s) (k - l) (n - l))) else none
          | none => none
      | _ => none
    | .c (.slc b off len cap) => match P.underlying t with
      | some (.slice e) => match sizeX P e with
        | none => none
        | some s => match boundX hi len with
          | some k => if Nat.ble l k && Nat.ble k cap && (Nat.blt l cap || Nat.beq l 0) then some (.c (.slc b (off + l * s) (k - l) (cap - l))) else none
          | none => none
      | _ => none
    | _ => none
def OptRel (E : Env) : Option SV → Option Value → Prop
  | none, none => True
  | some s, some u => s.Rel E u
  | _, _ => False
theorem bound_run {x : Option SV} {d n y : Nat} (h : boundX x d = some n) (hle : n ≤ y) {v : Option Value} (hv : OptRel E x v) (code : BoundsCode) (w : World) :
    (match v with | some u => Instr.sliceBound u y code | none => pure d).run P w = .ok n w := by
  cases x with
  | none =>
    cases v with
    | none => cases h; rfl
    | some u => cases hv
  | some s =>
    cases v with
    | none => cases hv
    | some u =>
      obtain ⟨k, rfl⟩ := litNat_ok h hv
      simp [Instr.sliceBound, asIntOf, hle]
theorem bounds_run {len cap l k : Nat} {isS : Bool} {vl vh : Option Value} {c1 : BoundsCode} (w : World) (b2 : (match vh with | some u => Instr.sliceBound u cap c1 | none => pure len).run P w = .ok k w) (hc : c1 = if isS then .sliceAcap else .sliceAlen)
    (b1 : (match vl with | some u => Instr.sliceBound u k .sliceB | none => pure 0).run P w = .ok l w) : (Instr.sliceBounds isS len cap vl vh none).run P w = .ok (l, k, cap) w := by
  subst hc
  cases vl <;> cases vh
  · simp only [Sem.run_pure, Result.ok.injEq, and_true] at b1 b2
    subst b1 b2; simp [Instr.sliceBounds]
  · simp only [Sem.run_pure, Result.ok.injEq, and_true] at b1
    subst b1; simp [Instr.sliceBounds, b2]
  · simp only [Sem.run_pure, Result.ok.injEq, and_true] at b2
    subst b2; simp [Instr.sliceBounds, b1]
  · simp [Instr.sliceBounds, b1, b2]
theorem sliceX_ok {t : TypeId} {x s : SV} {lo hi : Option SV} (h : sliceX P t x lo hi = some s) {u : Value} (hx : x.Rel E u) {vl vh : Option Value} (hl : OptRel E lo vl)
    (hh : OptRel E hi vh) : ∃ r, s.Rel E r ∧ ∀ w, (Instr.sliceAt t u vl vh none).run P w = .ok r w := by
  unfold sliceX at h
  split at h
  · cases h
  rename_i l h1
  split at h
  · rename_i b off
    obtain ⟨g, hg, rfl⟩ := rel_ptr hx
    split at h
    · rename_i n e hu
      split at h
      · cases h
      rename_i sz hs
      split at h
      · rename_i k h2
        split at h
        · rename_i hc
          simp only [Bool.and_eq_true, Bool.or_eq_true] at hc
          obtain ⟨⟨c1, c2⟩, c3⟩ := hc
          have c1 := Nat.le_of_ble_eq_true c1
          have c2 := Nat.le_of_ble_eq_true c2
          cases h
          refine ⟨_, slc_rel _ _ _ hg, fun w => ?_⟩
          have hb := bounds_run (isS := false) w (bound_run (P := P) (E := E) h2 c2 hh .sliceAlen w) rfl (bound_run (P := P) (E := E) h1 c1 hl .sliceB w)
          simp only [Instr.sliceAt, Sem.run_bind, run_underlying hu, Result.andThen_ok, Instr.sureAddr, Sem.run_pure, hb, sizeX_run hs]
          rcases c3 with c3 | c3
          · have := blt_lt c3
            rw [if_neg (by omega), Addr.add_lit]
          · obtain rfl := Nat.eq_of_beq_eq_true c3
            by_cases hn : n = 0
            · rw [if_pos hn, Nat.zero_mul, Nat.add_zero]
            · rw [if_neg hn, Addr.add_lit]
        · cases h
      · cases h
    · cases h
  · rename_i b off len cap
    obtain ⟨g, hg, rfl⟩ := rel_slc hx
    split at h
    · rename_i e hu
      split at h
      · cases h
      rename_i sz hs
      split at h
      · rename_i k h2
        split at h
        · rename_i hc
          simp only [Bool.and_eq_true, Bool.or_eq_true] at hc
          obtain ⟨⟨c1, c2⟩, c3⟩ := hc
          have c1 := Nat.le_of_ble_eq_true c1
          have c2 := Nat.le_of_ble_eq_true c2
          cases h
          refine ⟨_, slc_rel _ _ _ hg, fun w => ?_⟩
          have hb := bounds_run (isS := true) w (bound_run (P := P) (E := E) h2 c2 hh .sliceAcap w) rfl (bound_run (P := P) (E := E) h1 c1 hl .sliceB w)
          simp only [Instr.sliceAt, Instr.slice, Sem.run_bind, run_underlying hu, Result.andThen_ok, Sem.run_pure, hb, sizeX_run hs]
          rcases c3 with c3 | c3
          · have := blt_lt c3
            rw [if_neg (by omega)]; simp [Addr.add_lit]
          · obtain rfl := Nat.eq_of_beq_eq_true c3
            by_cases hn : cap = 0
            · rw [if_pos hn, Nat.zero_mul, Nat.add_zero]
            · rw [if_neg hn]; simp [Addr.add_lit]
        · cases h
      · cases h
    · cases h
  · cases h
/-- A literal of an array, a struct. -/
def cellsOf : SV → Option (List C)
  | .c c => some [c]
  | .agg l => some l
  | _ => none
def fillC (place : Nat → Option (Nat × Nat)) (cells : List C) : List (Nat × List C) → Option (List C)
  | [] => some cells
  | (i, v) :: rest => match place i with
    | none => none
    | some (off, size) => if Nat.beq v.length size && Nat.ble (off + v.length) cells.length then fillC place (v.zipIdx.foldl (fun cs (c, j) => cs.set (off + j) c) cells) rest else none
theorem foldl_set (off : Nat) : ∀ (v : List C) (k : Nat) (cells : List C), ((dens E v).zipIdx k).foldl (fun cs (c, j) => cs.setIfInBounds (off + j) c) (dens E cells).toArray = (dens E ((v.zipIdx k).foldl (fun cs (c, j) => cs.set (off + j) c) cells)).toArray
  | [], _, _ => rfl
  | c :: v, k, cells => by
    simp only [dens, List.map_cons, List.zipIdx_cons, List.foldl_cons]
    have := foldl_set off v (k + 1) (cells.set (off + k) c)
    simp only [dens] at this
    rw [← this, List.setIfInBounds_toArray, List.map_set]
theorem foldl_set_len (off : Nat) : ∀ (v : List C) (k : Nat) (cells : List C), ((v.zipIdx k).foldl (fun cs (c, j) => cs.set (off + j) c) cells).length = cells.length
  | [], _, _ => rfl
  | c :: v, k, cells => by
    simp only [List.zipIdx_cons, List.foldl_cons]
    rw [foldl_set_len off v (k + 1)]; simp
theorem foldl_set_oks (off : Nat) : ∀ (v : List C) (k : Nat) (cells : List C), oks E v → oks E cells → oks E ((v.zipIdx k).foldl (fun cs (c, j) => cs.set (off + j) c) cells)
  | [], _, _, _, h => h
  | c :: v, k, cells, hv, h => by
    simp only [List.zipIdx_cons, List.foldl_cons]
    refine foldl_set_oks off v (k + 1) _ (fun x hx => hv x (by simp [hx])) fun x hx => ?_
    rcases List.mem_or_eq_of_mem_set hx with hx | rfl
    · exact h x hx
    · exact hv x (by simp)
theorem fillC_ok {place : Nat → Option (Nat × Nat)} : ∀ {parts : List (Nat × List C)} {vs : List (Nat × Value)} {cells out : List C}, fillC place cells parts = some out → oks E cells →
    (vs.map (·.1) = parts.map (·.1) ∧ ∀ (j : Nat) (p : Nat × List C) (q : Nat × Value), parts[j]? = some p → vs[j]? = some q → q.2.cells = (dens E p.2).toArray ∧ oks E p.2) →
    Instr.fill place (dens E cells).toArray vs = some (dens E out).toArray ∧ oks E out
  | [], [], cells, out, h, ho, _ => by cases h; exact ⟨rfl, ho⟩
  | [], _ :: _, _, _, _, _, hp => by simp at hp
  | _ :: _, [], _, _, _, _, hp => by simp at hp
  | (i, v) :: rest, (i', u) :: vs, cells, out, h, ho, hp => by
    obtain ⟨h1, h2⟩ := hp
    simp only [List.map_cons, List.cons.injEq] at h1
    obtain ⟨rfl, h1⟩ := h1
    obtain ⟨hu, hv⟩ := h2 0 (i', v) (i', u) rfl rfl
    simp only at hu hv
    unfold fillC at h
    split at h
    · cases h
    · rename_i off size hpl
      split at h
      · rename_i hc
        simp only [Bool.and_eq_true] at hc
        have c1 := Nat.eq_of_beq_eq_true hc.1
        have c2 := Nat.le_of_ble_eq_true hc.2
        have hsz : u.cells.size = v.length := by rw [hu]; simp [dens]
        have ih := fillC_ok h (foldl_set_oks off v 0 cells hv ho) ⟨h1, fun j p q hj hq => h2 (j + 1) p q (by simpa using hj) (by simpa using hq)⟩
        refine ⟨?_, ih.2⟩
        unfold Instr.fill
        rw [hpl]
        simp only
        have hcs : (dens E cells).toArray.size = cells.length := by simp [dens]
        rw [if_neg (by rw [hsz, hcs]; simp; omega), hu]
        have e := foldl_set (E := E) off v 0 cells
        rw [← ih.1, ← e]
        congr 1
        simp
      · cases h
def partsX (ev : Ev) : List (Nat × Operand) → Option (List (Nat × List C))
  | [] => some []
  | (i, x) :: l => match ev x with
    | some s => match cellsOf s, partsX ev l with
      | some cs, some r => some ((i, cs) :: r)
      | _, _ => none
    | none => none
def noUndef : C → Bool
  | .undef => false
  | .ptrx .. => false
  | _ => true
theorem noUndef_ok {c : C} (h : noUndef c = true) (hc : c.ok E) : c.den E ≠ Go.undef ∧ (c.den E).oneCell' = true := by
  cases c with
  | ptr b off => obtain ⟨g, hg⟩ := Option.isSome_iff_exists.1 hc; rw [C.den, hg]; exact ⟨(fun e => by cases e), rfl⟩
  | slc b off l n => obtain ⟨g, hg⟩ := Option.isSome_iff_exists.1 hc; rw [C.den, hg]; exact ⟨(fun e => by cases e), rfl⟩
  | undef => cases h
  | opq b r => obtain ⟨_, v, hv, a, k, rfl⟩ := hc; rw [C.den, hv]; exact ⟨(fun e => by cases e), rfl⟩
  | ptrx b o l i => cases h
  | _ => exact ⟨(fun e => by cases e), rfl⟩
theorem cells_one {v : Value} (h : v.oneCell' = true) : v.cells = #[v] := by cases v <;> simp_all [Value.cells, Value.oneCell']
theorem cells_rel {s : SV} {l : List C} (h : cellsOf s = some l) {v : Value} (hv : s.Rel E v) (h1 : l.all noUndef = true) : v.cells = (dens E l).toArray ∧ oks E l := by
  unfold cellsOf at h
  split at h
  · rename_i c
    cases h
    obtain ⟨rfl, hc⟩ := hv
    refine ⟨cells_one (noUndef_ok (by simpa using h1) hc).2, fun x hx => by rcases List.mem_singleton.1 hx with rfl; exact hc⟩
  · cases h; exact ⟨by rw [hv.1]; rfl, hv.2⟩
  · cases h
def zeroX (P : Program) (t : TypeId) : Option (List C) :=
  match P.info? t with
  | some i => match i.zero with
    | some z => ofCells z.cells.toList
    | none => none
  | none => none
def placesX (P : Program) (fs : List Field) : Option (List (Nat × Nat)) :=
  match fs with
  | [] => some []
  | f :: l => match sizeX P f.type, placesX P l with
    | some s, some r => some ((f.offset, s) :: r)
    | _, _ => none
theorem placesX_eq : ∀ (fs : List Field), placesX P fs = fs.mapM (fun f => (P.info? f.type).map fun i => (f.offset, i.size))
  | [] => rfl
  | f :: l => by
    unfold placesX
    rw [List.mapM_cons, ← placesX_eq l]
    unfold sizeX
    cases P.info? f.type <;> cases placesX P l <;> rfl
def buildX (P : Program) (ev : Ev) (t : TypeId) (parts : List (Nat × Operand)) : Option SV :=
  match zeroX P t, partsX ev parts with
  | some z, some ps => if ps.all fun p => p.2.all noUndef then
      match P.underlying t with
      | some (.struct fields) => match placesX P fields.toList with
        | some pl => (fillC (fun i => pl[i]?) z ps).map .agg
        | none => none
      | some (.array _ e) => match sizeX P e with
        | some s => (fillC (fun i => some (i * s, s)) z ps).map .agg
        | none => none
      | _ => none
    else none
  | _, _ => none
theorem partsX_ok {ev : Ev} {a : Act} (hev : ∀ x u, ev x = some u → u.Rel E (a.eval x)) : ∀ {parts : List (Nat × Operand)} {ps : List (Nat × List C)}, partsX ev parts = some ps → (ps.all fun p => p.2.all noUndef) = true →
    ((parts.map fun (i, x) => (i, a.eval x)).map (·.1) = ps.map (·.1) ∧ ∀ (j : Nat) (p : Nat × List C) (q : Nat × Value), ps[j]? = some p → (parts.map fun (i, x) => (i, a.eval x))[j]? = some q → q.2.cells = (dens E p.2).toArray ∧ oks E p.2)
  | [], ps, h, _ => by cases h; exact ⟨rfl, fun j p q h => by simp at h⟩
  | (i, x) :: l, ps, h, ha => by
    unfold partsX at h
    split at h
    · rename_i s hs
      split at h
      · rename_i cs r hc hr
        cases h
        simp only [List.all_cons, Bool.and_eq_true] at ha
        obtain ⟨i1, i2⟩ := partsX_ok hev hr ha.2
        refine ⟨by simp only [List.map_cons, i1], fun j p q hj hq => ?_⟩
        cases j with
        | zero =>
          simp only [List.getElem?_cons_zero, Option.some.injEq, List.map_cons] at hj hq
          subst hj hq
          exact cells_rel hc (hev x s hs) ha.1
        | succ j => exact i2 j p q (by simpa using hj) (by simpa using hq)
      · cases h
    · cases h
theorem buildX_ok {ev : Ev} {a : Act} (hev : ∀ x u, ev x = some u → u.Rel E (a.eval x)) {t : TypeId} {parts : Array (Nat × Operand)} {s : SV} (h : buildX P ev t parts.toList = some s) :
    ∃ r, s.Rel E r ∧ ∀ w, (Instr.build t (parts.map fun (i, x) => (i, a.eval x))).run P w = .ok r w := by
  unfold buildX at h
  split at h
  · rename_i z ps hz hps
    split at h
    · rename_i hall
      have hp := partsX_ok (E := E) hev hps hall
      unfold zeroX at hz
      split at hz
      · rename_i i hi
        split at hz
        · rename_i zv hzv
          obtain ⟨e, ho⟩ := ofCells_ok (E := E) hz
          have e' : zv.cells = (dens E z).toArray := Array.toList_inj.1 (by simpa using e)
          have hpl : (parts.map fun (i, x) => (i, a.eval x)).toList = parts.toList.map fun (i, x) => (i, a.eval x) := by simp
          have fin : ∀ out : List C, P.built t (parts.map fun (i, x) => (i, a.eval x)).toList = some (dens E out).toArray → oks E out → ∃ r, (SV.agg out).Rel E r ∧ ∀ w, (Instr.build t (parts.map fun (i, x) => (i, a.eval x))).run P w = .ok r w :=
            fun out hb ho => ⟨_, ⟨rfl, ho⟩, fun w => run_build w t _ _ hb⟩
          split at h
          · rename_i fields hu
            split at h
            · rename_i pl hplc
              obtain ⟨out, hout, rfl⟩ := Option.map_eq_some_iff.1 h
              obtain ⟨hf, ho2⟩ := fillC_ok hout ho hp
              refine fin out ?_ ho2
              rw [placesX_eq] at hplc
              rw [hpl]
              simp only [Program.built, hi, hu, hzv, hplc, e']
              simpa using hf
            · cases h
          · rename_i len el hu
            split at h
            · rename_i sz hs
              obtain ⟨out, hout, rfl⟩ := Option.map_eq_some_iff.1 h
              obtain ⟨hf, ho2⟩ := fillC_ok hout ho hp
              refine fin out ?_ ho2
              obtain ⟨ie, hie, rfl⟩ := Option.map_eq_some_iff.1 hs
              rw [hpl]
              simp only [Program.built, hi, hu, hzv, hie, e']
              simpa using hf
            · cases h
          · cases h
        · cases hz
      · cases hz
    · cases h
  · cases h
end
end Go.Sx
