/- Regions that draw their order, over names: each step is reckoned from what it touches alone; what clashes stands in one order. No condition. -/
import Derived.Test.YtbhflfdlkiihgaaSx8
namespace Go.Sx
open Go Go.RowKit Go.Bx

def Ref.eqb : Ref → Ref → Bool
  | .v i, .v j => Nat.beq i j
  | .l a, .l b => decide (a = b)
  | _, _ => false
theorem Ref.eqb_eq {a b : Ref} (h : Ref.eqb a b = true) : a = b := by
  cases a <;> cases b <;> simp_all [Ref.eqb]
def C.eqb : C → C → Bool
  | .int k r, .int k' r' => decide (k = k') && Ref.eqb r r'
  | .bool r, .bool r' => Ref.eqb r r'
  | .ptr b o, .ptr b' o' => Nat.beq b b' && Nat.beq o o'
  | .ptrx b o l i, .ptrx b' o' l' i' => Nat.beq b b' && Nat.beq o o' && Nat.beq l l' && Nat.beq i i'
  | .slc b o l c, .slc b' o' l' c' => Nat.beq b b' && Nat.beq o o' && Nat.beq l l' && Nat.beq c c'
  | .nilp, .nilp => true
  | .nils, .nils => true
  | .strv r, .strv r' => Ref.eqb r r'
  | .opq b r, .opq b' r' => Nat.beq b b' && Ref.eqb r r'
  | .str l, .str m => l == m
  | .undef, .undef => true
  | _, _ => false
theorem C.eqb_eq {a b : C} (h : C.eqb a b = true) : a = b := by
  cases a <;> cases b <;> simp_all [C.eqb]
  · exact Ref.eqb_eq h.2
  · exact Ref.eqb_eq h
  · exact Ref.eqb_eq h
  · exact Ref.eqb_eq h.2
def cellsEqb : List C → List C → Bool
  | [], [] => true
  | a :: l, b :: m => C.eqb a b && cellsEqb l m
  | _, _ => false
theorem cellsEqb_eq : ∀ {l m : List C}, cellsEqb l m = true → l = m
  | [], [], _ => rfl
  | a :: l, b :: m, h => by
    simp only [cellsEqb, Bool.and_eq_true] at h
    rw [C.eqb_eq h.1, cellsEqb_eq h.2]
  | [], _ :: _, h => by simp [cellsEqb] at h
  | _ :: _, [], h => by simp [cellsEqb] at h
def blkEqb : Option Blk → Option Blk → Bool
  | none, none => true
  | some a, some b => Nat.beq a.t b.t && cellsEqb a.cs b.cs
  | _, _ => false
theorem blkEqb_eq {a b : Option Blk} (h : blkEqb a b = true) : a = b := by
  cases a <;> cases b <;> simp only [blkEqb, Bool.and_eq_true] at h
  · rfl
  · cases h
  · cases h
  · rename_i a b
    obtain ⟨at_, ac⟩ := a; obtain ⟨bt, bc⟩ := b
    have h1 := Nat.eq_of_beq_eq_true h.1
    have h2 := cellsEqb_eq h.2
    simp only at h1 h2
    rw [h1, h2]
/-- Only blocks below n are named. -/
def C.low (n : Nat) : C → Bool
  | .ptr b _ => Nat.blt b n
  | .ptrx b _ _ _ => Nat.blt b n
  | .slc b _ _ _ => Nat.blt b n
  | .opq b _ => Nat.blt b n
  | _ => true
def SV.low (n : Nat) : SV → Bool
  | .c x => x.low n
  | .agg l => l.all (C.low n)
  | .tup l => l.all fun x => match x with | .inl z => z.low n | .inr m => m.all (C.low n)
  | .any => true
/-- Below n the one has all that the other has. -/
structure Low (E' E : Env) (n : Nat) : Prop where
  ρ : E'.ρ = E.ρ
  at_ : ∀ b g, b < n → E'.blk b = some g → E.blk b = some g
  vat : ∀ b p, b < n → E'.val b = some p → E.val b = some p
theorem C.lower {E E' : Env} {n : Nat} (hx : Low E' E n) {c : C} (hl : c.low n = true) (ho : c.ok E') : c.ok E ∧ c.den E' = c.den E := by
  cases c with
  | int k r => rw [C.ok, hx.ρ] at ho; exact ⟨ho, by rw [C.den, C.den, hx.ρ]⟩
  | bool r => exact ⟨trivial, by rw [C.den, C.den, hx.ρ]⟩
  | ptr b off =>
    obtain ⟨g, hg⟩ := Option.isSome_iff_exists.1 ho
    have := hx.at_ b g (blt_lt hl) hg
    exact ⟨by rw [C.ok, this]; rfl, by rw [C.den, C.den, this, hg]⟩
  | ptrx b off l i =>
    obtain ⟨g, hg⟩ := Option.isSome_iff_exists.1 ho.1
    have := hx.at_ b g (blt_lt hl) hg
    exact ⟨by rw [C.ok, this]; exact ⟨rfl, by rw [← hx.ρ]; exact ho.2⟩, by rw [C.den, C.den, this, hg, hx.ρ]⟩
  | slc b off l m =>
    obtain ⟨g, hg⟩ := Option.isSome_iff_exists.1 ho
    have := hx.at_ b g (blt_lt hl) hg
    exact ⟨by rw [C.ok, this]; rfl, by rw [C.den, C.den, this, hg]⟩
  | strv r => rw [C.ok, hx.ρ] at ho; exact ⟨ho, by rw [C.den, C.den, hx.ρ]⟩
  | opq b r =>
    obtain ⟨h1, v, hv, h2⟩ := ho
    have := hx.vat b _ (blt_lt hl) hv
    rw [hx.ρ] at h1 h2 this
    exact ⟨⟨h1, v, this, h2⟩, by rw [C.den, C.den, this, hv]⟩
  | nilp => exact ⟨trivial, rfl⟩
  | nils => exact ⟨trivial, rfl⟩
  | str l => exact ⟨trivial, rfl⟩
  | undef => exact ⟨trivial, rfl⟩
theorem oks_lower {E E' : Env} {n : Nat} (hx : Low E' E n) {l : List C} (hl : l.all (C.low n) = true) (ho : oks E' l) : oks E l ∧ dens E' l = dens E l := by
  rw [List.all_eq_true] at hl
  exact ⟨fun c hc => (C.lower hx (hl c hc) (ho c hc)).1, List.map_congr_left fun c hc => (C.lower hx (hl c hc) (ho c hc)).2⟩
theorem SV.lower {E E' : Env} {n : Nat} (hx : Low E' E n) {s : SV} (hl : s.low n = true) {v : Value} (hv : s.Rel E' v) : s.Rel E v := by
  cases s with
  | c c => obtain ⟨h1, h2⟩ := hv; obtain ⟨a, b⟩ := C.lower hx hl h2; exact ⟨by rw [h1, b], a⟩
  | agg l => obtain ⟨h1, h2⟩ := hv; obtain ⟨a, b⟩ := oks_lower hx hl h2; exact ⟨by rw [h1, b], a⟩
  | tup l =>
    obtain ⟨h1, h2⟩ := hv
    simp only [SV.low, List.all_eq_true] at hl
    have key : ∀ x ∈ l, sumDen E' x = sumDen E x ∧ sumOk E x := fun x hx' => by
      have h3 := hl x hx'
      have h4 := h2 x hx'
      cases x with
      | inl c => obtain ⟨a, b⟩ := C.lower hx h3 h4; exact ⟨b, a⟩
      | inr m => obtain ⟨a, b⟩ := oks_lower hx h3 h4; exact ⟨congrArg (fun q : List Value => Value.agg q.toArray) b, a⟩
    exact ⟨by rw [h1, List.map_congr_left fun x hx => (key x hx).1], fun x hx => (key x hx).2⟩
  | any => trivial
def bit (o : Option Nat) : Nat := match o with | some i => 1 <<< i | none => 0
theorem bit_test {i t : Nat} : (bit (some i)).testBit t = decide (i = t) := by
  show (1 <<< i).testBit t = _
  rw [Nat.one_shiftLeft, Nat.testBit_two_pow]
def opMask (ops : List Oper) (o : Oper) : Nat := o.op.operands.toList.foldl (fun m x => match x with | .tmp t => m ||| (1 <<< t) | _ => m) (bit (guardSlot ops o))
def restrictS (m : Nat) : Nat → List SV → List SV
  | _, [] => []
  | i, s :: l => (if Nat.testBit m i then s else .any) :: restrictS m (i + 1) l
theorem restrictS_len (m : Nat) : ∀ (i : Nat) (l : List SV), (restrictS m i l).length = l.length
  | _, [] => rfl
  | i, s :: l => by simp [restrictS, restrictS_len m (i + 1) l]
theorem restrictS_get {m : Nat} : ∀ {i : Nat} {l : List SV} {t : Nat} {s : SV}, (restrictS m i l)[t]? = some s → s = .any ∨ (m.testBit (i + t) = true ∧ l[t]? = some s)
  | _, [], _, _, h => by simp [restrictS] at h
  | i, s0 :: l, 0, s, h => by
    simp only [restrictS, List.getElem?_cons_zero, Option.some.injEq] at h
    split at h
    · rename_i hb; exact .inr ⟨by simpa using hb, by simp [h]⟩
    · exact .inl h.symm
  | i, s0 :: l, t + 1, s, h => by
    rcases restrictS_get (i := i + 1) (by simpa [restrictS] using h) with h | ⟨h1, h2⟩
    · exact .inl h
    · exact .inr ⟨by rw [show i + (t + 1) = i + 1 + t by omega]; exact h1, by simpa using h2⟩
def C.blkBit : C → Nat
  | .ptr b _ => 1 <<< b
  | .ptrx b _ _ _ => 1 <<< b
  | .slc b _ _ _ => 1 <<< b
  | _ => 0
def cellsBits (l : List C) : Nat := l.foldl (fun m c => m ||| c.blkBit) 0
def SV.blkBits : SV → Nat
  | .c x => x.blkBit
  | .agg l => cellsBits l
  | .tup l => l.foldl (fun m x => m ||| match x with | .inl z => z.blkBit | .inr l => cellsBits l) 0
  | .any => 0
def fpOf (l : List SV) : Nat := l.foldl (fun m s => m ||| s.blkBits) 0
def restrictM (m : Nat) : Nat → Mem → Mem
  | _, [] => []
  | i, s :: l => (if Nat.testBit m i then s else none) :: restrictM m (i + 1) l
theorem restrictM_len (m : Nat) : ∀ (i : Nat) (l : Mem), (restrictM m i l).length = l.length
  | _, [] => rfl
  | i, s :: l => by simp [restrictM, restrictM_len m (i + 1) l]
theorem restrictM_get {m : Nat} : ∀ {i : Nat} {l : Mem} {t : Nat} {B : Blk}, (restrictM m i l)[t]? = some (some B) → m.testBit (i + t) = true ∧ l[t]? = some (some B)
  | _, [], _, _, h => by simp [restrictM] at h
  | i, s0 :: l, 0, s, h => by
    simp only [restrictM, List.getElem?_cons_zero, Option.some.injEq] at h
    split at h
    · rename_i hb; exact ⟨by simpa using hb, by simp [h]⟩
    · cases h
  | i, s0 :: l, t + 1, s, h => by
    obtain ⟨h1, h2⟩ := restrictM_get (i := i + 1) (l := l) (by simpa [restrictM] using h)
    exact ⟨by rw [show i + (t + 1) = i + 1 + t by omega]; exact h1, by simpa using h2⟩
/-- The touched blocks as they are now, the others as they were; which of them are written; whether all they name is old. -/
def mergeM (m : Nat) : Nat → Mem → Mem → Mem
  | _, [], _ => []
  | i, x :: l, y :: l' => (if Nat.testBit m i then y else x) :: mergeM m (i + 1) l l'
  | i, x :: l, [] => x :: mergeM m (i + 1) l []
def chM (m : Nat) : Nat → Mem → Mem → Nat
  | _, [], _ => 0
  | i, x :: l, y :: l' => (if Nat.testBit m i && !blkEqb x y then 1 <<< i else 0) ||| chM m (i + 1) l l'
  | _, _ :: _, [] => 0
def lowM (n : Nat) (m : Nat) : Nat → Mem → Mem → Bool
  | _, [], _ => true
  | i, _ :: l, y :: l' => (!Nat.testBit m i || (match y with | some B => B.cs.all (C.low n) | none => true)) && lowM n m (i + 1) l l'
  | _, _ :: _, [] => false
theorem mergeM_len (m : Nat) : ∀ (i : Nat) (l l' : Mem), (mergeM m i l l').length = l.length
  | _, [], _ => rfl
  | i, x :: l, y :: l' => by simp [mergeM, mergeM_len m (i + 1) l l']
  | i, x :: l, [] => by simp [mergeM, mergeM_len m (i + 1) l []]
/-- What becomes of one block. -/
theorem merge_get {n m : Nat} : ∀ {i : Nat} {l l' : Mem} {b : Nat}, lowM n m i l l' = true → b < l.length → ∃ y, l'[b]? = some y ∧
    (mergeM m i l l')[b]? = some (if m.testBit (i + b) then y else l.getD b none) ∧ (m.testBit (i + b) = true → (∀ B, y = some B → B.cs.all (C.low n) = true)) ∧
    ((chM m i l l').testBit (i + b) = (m.testBit (i + b) && !blkEqb (l.getD b none) y))
  | _, [], _, b, _, hb => by simp at hb
  | i, x :: l, [], b, h, _ => by simp [lowM] at h
  | i, x :: l, y :: l', 0, h, _ => by
    simp only [lowM, Bool.and_eq_true, Bool.or_eq_true, Bool.not_eq_true'] at h
    refine ⟨y, rfl, by simp [mergeM], fun hm B hB => ?_, ?_⟩
    · rcases h.1 with h | h
      · rw [Nat.add_zero] at hm; rw [hm] at h; cases h
      · rw [hB] at h; exact h
    · have hz : ∀ (j : Nat) (l l' : Mem), i < j → (chM m j l l').testBit i = false := fun j l l' => by
        induction l generalizing j l' with
        | nil => intro _; simp [chM]
        | cons x l ih =>
          intro hj
          cases l' with
          | nil => simp [chM]
          | cons y l' =>
            simp only [chM, Nat.testBit_or, ih (j + 1) l' (by omega), Bool.or_false]
            split
            · rw [Nat.one_shiftLeft, Nat.testBit_two_pow]; simp; omega
            · simp
      simp only [chM, Nat.testBit_or, Nat.add_zero, hz (i + 1) l l' (by omega), Bool.or_false, List.getD_cons_zero]
      split
      · rename_i hc; rw [hc, Nat.one_shiftLeft, Nat.testBit_two_pow]; simp
      · rename_i hc; simp only [Bool.not_eq_true] at hc; rw [hc]; simp
  | i, x :: l, y :: l', b + 1, h, hb => by
    simp only [lowM, Bool.and_eq_true] at h
    obtain ⟨z, h1, h2, h3, h4⟩ := merge_get (i := i + 1) (b := b) h.2 (by simpa using hb)
    refine ⟨z, by simpa using h1, ?_, ?_, ?_⟩
    · rw [show i + (b + 1) = i + 1 + b by omega]; simpa [mergeM] using h2
    · rw [show i + (b + 1) = i + 1 + b by omega]; exact h3
    · rw [show i + (b + 1) = i + 1 + b by omega]
      simp only [chM, Nat.testBit_or, h4, List.getD_cons_succ]
      have : (if (m.testBit i && !blkEqb x y) = true then 1 <<< i else 0 : Nat).testBit (i + 1 + b) = false := by
        split
        · rw [Nat.one_shiftLeft, Nat.testBit_two_pow]; simp; omega
        · simp
      rw [this, Bool.false_or]
theorem chM_high (m : Nat) : ∀ (i : Nat) (l l' : Mem) (b : Nat), i + l.length ≤ b → (chM m i l l').testBit b = false
  | _, [], _, _, _ => by simp [chM]
  | _, _ :: _, [], _, _ => by simp [chM]
  | i, x :: l, y :: l', b, h => by
    simp only [List.length_cons] at h
    simp only [chM, Nat.testBit_or, chM_high m (i + 1) l l' b (by omega), Bool.or_false]
    split
    · rw [Nat.one_shiftLeft, Nat.testBit_two_pow]; simp; omega
    · simp
def isAlloc : Op → Bool
  | .alloc _ => true
  | .box _ _ => true
  | .makeSlice _ _ _ => true
  | .convert _ _ _ => true
  | .buildSlice _ _ _ => true
  | .slice _ _ _ _ _ => true
  | .call { callee := .value (.func _), args := _, argTypes := _ } => true
  | _ => false
/-- What a step lays that is kept: one block. -/
def newM (o : Op) (n : Nat) (mem : Mem) : Mem := if isAlloc o then (mem.drop n).take 1 else []
def newBit (nw : Mem) (n : Nat) : Nat := match nw with | [] => 0 | _ => 1 <<< n
def newOk (n : Nat) : Mem → Bool
  | [] => true
  | [none] => true
  | [some B] => B.cs.all (C.low (n + 1))
  | _ => false
def lowAll (n : Nat) (mem : Mem) : Bool := mem.all fun x => match x with | some B => B.cs.all (C.low n) | none => true
def runD (P : Program) (call : CallH) (ops : List Oper) : List Oper → List SV → St → List Nat → Option (List Row × List (List SV × Mem) × List SV × List Fact × St)
  | [], slots, st, _ => some ([], [], slots, [], st)
  | o :: rest, slots, st, acc =>
    let sR := restrictS (opMask ops o) 0 slots
    let fp := fpOf sR
    match runOne P call ops sR { st with mem := restrictM fp 0 st.mem } o with
    | some (s, f, st1) =>
      let nw := newM o.op st.mem.length st1.mem
      if (sR.all (SV.low st.mem.length) && lowAll st.mem.length (restrictM fp 0 st.mem)) && s.low (st.mem.length + nw.length) && lowM (st.mem.length + nw.length) fp 0 st.mem st1.mem && newOk st.mem.length nw then
        match runD P call ops rest (putX slots o.dst s) { st1 with mem := mergeM fp 0 st.mem st1.mem ++ nw } (acc ++ [ancOf acc o]) with
        | some (rows, tr, sl, f', st2) => some (⟨opMask ops o ||| bit o.dst, bit o.dst, fp ||| newBit nw st.mem.length, chM fp 0 st.mem st1.mem ||| newBit nw st.mem.length, ancOf acc o⟩ :: rows, (slots, st.mem) :: tr, sl, f ++ f', st2)
        | none => none
      else none
    | none => none
/-- One step of such a region. -/
def Link (P : Program) (fns : Fns) (call : CallH) (ops : List Oper) (ρ : Nat → Int) (o : Oper) (S S' : List SV × Mem) (r : Row) : Prop :=
  ∃ (st st1 : St) (s : SV) (f : List Fact), st.mem = S.2 ∧ KnOK ρ st.kn ∧ (∀ x ∈ f, Fact.ok fns ρ x) ∧
    runOne P call ops (restrictS (opMask ops o) 0 S.1) { st with mem := restrictM (fpOf (restrictS (opMask ops o) 0 S.1)) 0 S.2 } o = some (s, f, st1) ∧
    (((restrictS (opMask ops o) 0 S.1).all (SV.low S.2.length) = true ∧ lowAll S.2.length (restrictM (fpOf (restrictS (opMask ops o) 0 S.1)) 0 S.2) = true) ∧ s.low (S.2.length + (newM o.op S.2.length st1.mem).length) = true ∧
      lowM (S.2.length + (newM o.op S.2.length st1.mem).length) (fpOf (restrictS (opMask ops o) 0 S.1)) 0 S.2 st1.mem = true ∧ newOk S.2.length (newM o.op S.2.length st1.mem) = true) ∧
    S'.1 = putX S.1 o.dst s ∧ S'.2 = mergeM (fpOf (restrictS (opMask ops o) 0 S.1)) 0 S.2 st1.mem ++ newM o.op S.2.length st1.mem ∧
    r.tS = opMask ops o ||| bit o.dst ∧ r.wS = bit o.dst ∧ r.tB = fpOf (restrictS (opMask ops o) 0 S.1) ||| newBit (newM o.op S.2.length st1.mem) S.2.length ∧
    r.wB = chM (fpOf (restrictS (opMask ops o) 0 S.1)) 0 S.2 st1.mem ||| newBit (newM o.op S.2.length st1.mem) S.2.length
theorem runD_spec {P : Program} {fns : Fns} {call : CallH} (hcall : CallOK P fns call) {ops : List Oper} : ∀ {rest : List Oper} {slots slots' : List SV} {st st' : St} {acc : List Nat} {rows : List Row} {tr : List (List SV × Mem)} {fs : List Fact},
    runD P call ops rest slots st acc = some (rows, tr, slots', fs, st') → rows.length = rest.length ∧ tr.length = rest.length ∧ (tr ++ [(slots', st'.mem)]).getD 0 ([], []) = (slots, st.mem) ∧
    ∀ ρ, (∀ x ∈ fs, Fact.ok fns ρ x) → KnOK ρ st.kn → KnOK ρ st'.kn ∧ ∀ (j : Nat) (o : Oper) (r : Row), rest[j]? = some o → rows[j]? = some r →
      Link P fns call ops ρ o ((tr ++ [(slots', st'.mem)]).getD j ([], [])) ((tr ++ [(slots', st'.mem)]).getD (j + 1) ([], [])) r
  | [], slots, slots', st, st', acc, rows, tr, fs, h => by
    cases h
    exact ⟨rfl, rfl, rfl, fun ρ _ hk => ⟨hk, fun j o r ho => by simp at ho⟩⟩
  | o :: rest, slots, slots', st, st', acc, rows, tr, fs, h => by
    unfold runD at h
    simp only at h
    split at h
    · rename_i s f st1 h1
      split at h
      · rename_i hlow
        split at h
        · rename_i rows' tr' sl f' st2 h2
          cases h
          simp only [Bool.and_eq_true] at hlow
          obtain ⟨⟨⟨q1, q2⟩, q3⟩, q4⟩ := hlow
          obtain ⟨i1, i2, i3, i4⟩ := runD_spec hcall h2
          refine ⟨by simp [i1], by simp [i2], rfl, fun ρ hf hk => ?_⟩
          have k1 := ((runOne_ok hcall h1).2 ρ (fun x hx => hf x (by simp [hx])) hk).1
          have k2 := i4 ρ (fun x hx => hf x (by simp [hx])) k1
          refine ⟨k2.1, fun j o' r ho hr => ?_⟩
          cases j with
          | zero =>
            obtain rfl : o = o' := by simpa using ho
            obtain rfl := (by simpa using hr : _ = r)
            have e1 : (((slots, st.mem) :: tr') ++ [(slots', st'.mem)]).getD 0 ([], []) = (slots, st.mem) := rfl
            have e2 : (((slots, st.mem) :: tr') ++ [(slots', st'.mem)]).getD 1 ([], []) = (putX slots o.dst s, mergeM (fpOf (restrictS (opMask ops o) 0 slots)) 0 st.mem st1.mem ++ newM o.op st.mem.length st1.mem) := i3
            rw [e1, e2]
            exact ⟨st, st1, s, f, rfl, hk, fun x hx => hf x (by simp [hx]), h1, ⟨q1, q2, q3, q4⟩, rfl, rfl, rfl, rfl, rfl, rfl⟩
          | succ j =>
            have := k2.2 j o' r (by simpa using ho) (by simpa using hr)
            exact this
        · cases h
      · cases h
    · cases h
/-- A block as it is said to be; none: it is not yet laid. -/
def HB (E : Env) (b : Nat) (x : Option (Option Blk)) (w : World) : Prop :=
  match x with
  | some (some B) => ∃ g, E.blk b = some g ∧ w.heap[g]? = some (.cells (dens E B.cs).toArray B.t (0, 0)) ∧ oks E B.cs
  | some none => True
  | none => E.blk b = none ∧ E.val b = none
def HS (E : Env) (t : Nat) (x : Option SV) (a : Act) : Prop :=
  match x with
  | some s => s.Rel E (a.tmps.getD t Go.undef)
  | none => True
def cutE (E : Env) (n : Nat) : Env := { E with blk := fun b => if b < n then E.blk b else none, val := fun b => if b < n then E.val b else none }
theorem cutE_some {E : Env} {n b g : Nat} (h : (cutE E n).blk b = some g) : b < n ∧ E.blk b = some g := by
  simp only [cutE] at h
  split at h
  · rename_i hb; exact ⟨hb, h⟩
  · cases h
theorem cutE_val {E : Env} {n b : Nat} {p : Value × List UInt8} (h : (cutE E n).val b = some p) : b < n ∧ E.val b = some p := by
  simp only [cutE] at h
  split at h
  · rename_i hb; exact ⟨hb, h⟩
  · cases h
theorem cutE_low (E : Env) (n : Nat) : Low E (cutE E n) n := ⟨rfl, (fun b g hb h => by simp only [cutE, if_pos hb]; exact h), fun b g hb h => by simp only [cutE, if_pos hb]; exact h⟩
theorem cutE_vals {E : Env} {w : World} (h : Vals E w) (n : Nat) : Vals (cutE E n) w := ⟨fun b v l hb => h.rd b v l (cutE_val hb).2, fun b v l hb hl c g hc => h.ap b v l (cutE_val hb).2 hl c g (cutE_some hc).2⟩
structure GG (E0 : Env) (mem0 : Mem) (W0 : World) (ns : Nat) (E : Env) (a : Act) (w : World) : Prop where
  sz : a.tmps.size = ns
  df : a.defers = []
  fr : Fr (Vis E0 mem0) W0 w
  ext : Ext E0 E mem0.length W0
  nd : ∀ b c g, E.blk b = some g → E.blk c = some g → b = c
  lt : ∀ b g, E.blk b = some g → g < w.heap.size
  vl : Vals E w
theorem newM_cases {o : Op} {n : Nat} {mem : Mem} (h : newOk n (newM o n mem) = true) : newM o n mem = [] ∨ ∃ y : Option Blk, newM o n mem = [y] ∧ mem[n]? = some y ∧ ∀ B, y = some B → B.cs.all (C.low (n + 1)) = true := by
  have get : ∀ y, newM o n mem = [y] → mem[n]? = some y := fun y e => by
    unfold newM at e
    split at e
    · have := congrArg (fun l : Mem => l[0]?) e
      simpa using this
    · cases e
  unfold newOk at h
  split at h
  · rename_i e; exact .inl e
  · rename_i e; exact .inr ⟨none, e, get _ e, fun B h => by cases h⟩
  · rename_i B e; exact .inr ⟨some B, e, get _ e, fun B' h' => by cases h'; exact h⟩
  · cases h
theorem runD_ok {P : Program} {fns : Fns} {call : CallH} (hcall : CallOK P fns call) (hm : P.follows .mixedOrders = true) {ops : List Oper} {slots slots' : List SV} {st st' : St} {rows : List Row} {tr : List (List SV × Mem)} {fs : List Fact}
    (h : runD P call ops ops slots st [] = some (rows, tr, slots', fs, st')) (hrows : okRows [] rows = true) (hanc : okAnc [] ops rows = true) :
    MemLe st.mem st'.mem ∧ ∀ ρ, (∀ x ∈ fs, Fact.ok fns ρ x) → KnOK ρ st.kn → KnOK ρ st'.kn ∧
    ∀ (E : Env) (a : Act) (w : World), E.ρ = ρ → Good E st.mem w → Slots E slots a → ∀ (Q : Exit → Act → World → Prop) (id : Nat), (∀ E' a' w', Ext E E' st.mem.length w → Slots E' slots' a' → Good E' st'.mem w' → Fr (Vis E st.mem) w w' → Q .normal a' w') → (Code.region id ops.toArray true).wp P Q a w := by
  -- memory: as long, nothing new to be seen of what was there
  have memle : ∀ {rest : List Oper} {slots slots' : List SV} {st st' : St} {acc : List Nat} {rows : List Row} {tr : List (List SV × Mem)} {fs : List Fact}, runD P call ops rest slots st acc = some (rows, tr, slots', fs, st') → MemLe st.mem st'.mem := by
    intro rest
    induction rest with
    | nil => intro slots slots' st st' acc rows tr fs h; cases h; exact MemLe.refl _
    | cons o rest ih =>
      intro slots slots' st st' acc rows tr fs h
      unfold runD at h
      simp only at h
      split at h
      · rename_i s f st1 h1
        split at h
        · rename_i hlow
          split at h
          · rename_i rows' tr' sl f' st2 h2
            cases h
            simp only [Bool.and_eq_true] at hlow
            refine MemLe.trans ⟨by simp only [List.length_append, mergeM_len]; exact Nat.le_add_right _ _, fun b B hb hbl => ?_⟩ (ih h2)
            obtain ⟨y, y1, y2, y3, y4⟩ := merge_get hlow.1.2 hbl
            simp only at hb
            rw [List.getElem?_append_left (by rw [mergeM_len]; exact hbl), y2] at hb
            simp only [Option.some.injEq] at hb
            split at hb
            · subst hb
              obtain ⟨B1, hB1⟩ := (runOne_ok hcall h1).1.2 b B y1 (by rw [restrictM_len]; exact hbl)
              exact ⟨B1, (restrictM_get hB1).2⟩
            · rw [List.getD_eq_getElem?_getD, List.getElem?_eq_getElem hbl] at hb
              exact ⟨B, by rw [List.getElem?_eq_getElem hbl]; exact congrArg some hb⟩
          · cases h
        · cases h
      · cases h
  refine ⟨memle h, fun ρ hf hk => ?_⟩
  obtain ⟨hl1, hl2, h0, hspec⟩ := runD_spec hcall h
  obtain ⟨S, hS⟩ : ∃ S : Nat → List SV × Mem, S = fun j => (tr ++ [(slots', st'.mem)]).getD j ([], []) := ⟨_, rfl⟩
  have hS0 : S 0 = (slots, st.mem) := by rw [hS]; exact h0
  have hSn : S ops.length = (slots', st'.mem) := by
    rw [hS]; simp only [List.getD_eq_getElem?_getD]
    rw [List.getElem?_append_right (by omega), hl2, Nat.sub_self]; rfl
  have rowAt : ∀ j, j < ops.length → ∃ r, rows[j]? = some r := fun j hj => ⟨_, List.getElem?_eq_getElem (by omega)⟩
  obtain ⟨hk', hlink'⟩ := hspec ρ hf hk
  have hlink : ∀ j o r, ops[j]? = some o → rows[j]? = some r → Link P fns call ops ρ o (S j) (S (j + 1)) r := fun j o r ho hr => by rw [hS]; exact hlink' j o r ho hr
  have hlen : ∀ j, j ≤ ops.length → (S j).1.length = slots.length ∧ MemLe st.mem (S j).2 := fun j => by
    induction j with
    | zero => intro _; rw [hS0]; exact ⟨rfl, MemLe.refl _⟩
    | succ j ih =>
      intro hj
      obtain ⟨q2, q3⟩ := ih (by omega)
      obtain ⟨o, ho⟩ : ∃ o, ops[j]? = some o := ⟨_, List.getElem?_eq_getElem (by omega)⟩
      obtain ⟨r, hr⟩ := rowAt j (by omega)
      obtain ⟨st0, st1, s, f, e0, ek, ef, e1, ⟨e2, e2', e3, e3'⟩, e4, e5, _⟩ := hlink j o r ho hr
      refine ⟨?_, q3.trans ⟨by rw [e5, List.length_append, mergeM_len]; exact Nat.le_add_right _ _, fun b B hb hbl => ?_⟩⟩
      · rw [e4]; cases o.dst <;> simp [putX, q2]
      · obtain ⟨y, y1, y2, y3, y4⟩ := merge_get e3 hbl
        rw [e5, List.getElem?_append_left (by rw [mergeM_len]; exact hbl), y2] at hb
        simp only [Option.some.injEq] at hb
        split at hb
        · subst hb
          obtain ⟨B1, hB1⟩ := (runOne_ok hcall e1).1.2 b B y1 (by rw [restrictM_len]; exact hbl)
          exact ⟨B1, (restrictM_get hB1).2⟩
        · rw [List.getD_eq_getElem?_getD, List.getElem?_eq_getElem hbl] at hb
          exact ⟨B, by rw [List.getElem?_eq_getElem hbl]; exact congrArg some hb⟩
  refine ⟨hk', fun E a w hρ hg hs Q id hQ => ?_⟩
  refine wp_region_rows (rows := rows) (HS := HS) (HB := HB) (γ := E) (G := GG E st.mem w slots.length) (VS := fun i t => (S i).1[t]?) (VB := fun i b => (S i).2[b]?) hm hrows hanc ?_ ?_ ?_ ⟨hs.sz, hs.df, Fr.drew _ _, Ext.refl _ _ _, hg.nd, hg.lt, hg.vl.fr (S := fun _ => False) (Fr.drew _ w) (fun _ h => h.elim)⟩ ?_ ?_ ?_
  · intro j r t hr hw
    obtain ⟨o, ho⟩ : ∃ o, ops[j]? = some o := ⟨_, List.getElem?_eq_getElem (by have := (List.getElem?_eq_some_iff.1 hr).1; omega)⟩
    obtain ⟨st0, st1, s, f, e0, ek, ef, e1, ⟨e2, e2', e3, e3'⟩, e4, e5, e6, e7, e8, e9⟩ := hlink j o r ho hr
    simp only [e4]
    rw [e7] at hw
    cases hd : o.dst with
    | none => rfl
    | some d =>
      rw [hd, bit_test] at hw
      simp only [putX]
      rw [List.getElem?_set_ne (by simpa using hw)]
  · intro j r b hr hw
    obtain ⟨o, ho⟩ : ∃ o, ops[j]? = some o := ⟨_, List.getElem?_eq_getElem (by have := (List.getElem?_eq_some_iff.1 hr).1; omega)⟩
    obtain ⟨st0, st1, s, f, e0, ek, ef, e1, ⟨e2, e2', e3, e3'⟩, e4, e5, e6, e7, e8, e9⟩ := hlink j o r ho hr
    simp only [e5]
    rw [e9, Nat.testBit_or, Bool.or_eq_false_iff] at hw
    by_cases hbl : b < (S j).2.length
    · obtain ⟨y, y1, y2, y3, y4⟩ := merge_get e3 hbl
      rw [Nat.zero_add] at y2 y4
      have hw := hw.1
      rw [y4] at hw
      rw [List.getElem?_append_left (by rw [mergeM_len]; exact hbl), y2, List.getElem?_eq_getElem hbl]
      congr 1
      have hgd : (S j).2.getD b none = (S j).2[b] := by rw [List.getD_eq_getElem?_getD, List.getElem?_eq_getElem hbl]; rfl
      rw [hgd] at hw ⊢
      split
      · rename_i hb
        rw [hb, Bool.true_and, Bool.not_eq_false'] at hw
        exact (blkEqb_eq hw).symm
      · rfl
    · rw [List.getElem?_append_right (by rw [mergeM_len]; omega), mergeM_len, List.getElem?_eq_none (show (S j).2.length ≤ b by omega)]
      rcases newM_cases e3' with hn | ⟨B, hn, _⟩
      · rw [hn]; rfl
      · have hw := hw.2
        rw [hn] at hw ⊢
        simp only [newBit, Nat.one_shiftLeft, Nat.testBit_two_pow, decide_eq_false_iff_not] at hw
        rw [List.getElem?_eq_none (by simp; omega)]
  · intro i o r ho hr E1 a1 w1 hG hts htb K hK
    obtain ⟨st0, st1, s, f, e0, ek, ef, e1, ⟨e2, e2', e3, e3'⟩, e4, e5, e6, e7, e8, e9⟩ := hlink i o r ho hr
    obtain ⟨l2, l3⟩ := hlen i (by have := (List.getElem?_eq_some_iff.1 ho).1; omega)
    generalize hmk : opMask ops o = mk at *
    generalize hfp : fpOf (restrictS mk 0 (S i).1) = fp at *
    obtain ⟨n, hn⟩ : ∃ n, n = (S i).2.length := ⟨_, rfl⟩
    rw [← hn] at e2 e2' e3 e3' e5 e8 e9
    have hlow1 : Low E1 (cutE E1 n) n := cutE_low E1 n
    have hgood : Good (cutE E1 n) (restrictM fp 0 (S i).2) w1 := by
      refine ⟨fun b hb => ?_, fun b c g hb hc => hG.nd b c g (cutE_some hb).2 (cutE_some hc).2, fun b g hb => hG.lt b g (cutE_some hb).2, fun b B hb => ?_, cutE_vals hG.vl n, fun b hb => ?_⟩
      · rw [restrictM_len, ← hn] at hb
        simp only [cutE]; rw [if_neg (by omega)]
      · obtain ⟨b1, b2⟩ := restrictM_get hb
        rw [Nat.zero_add] at b1
        have := htb b (by rw [e8, Nat.testBit_or, b1, Bool.true_or])
        rw [b2] at this
        obtain ⟨g, g1, g2, g3⟩ := this
        have hbn : b < n := by rw [hn]; exact (List.getElem?_eq_some_iff.1 b2).1
        have hlB : B.cs.all (C.low n) = true := by
          have := e2.2
          unfold lowAll at this
          rw [List.all_eq_true] at this
          exact this (some B) (List.mem_of_getElem? hb)
        obtain ⟨o1, o2⟩ := oks_lower hlow1 hlB g3
        exact ⟨g, by simp only [cutE, if_pos hbn]; exact g1, by rw [← o2]; exact g2, o1⟩
      · rw [restrictM_len, ← hn] at hb
        simp only [cutE]; rw [if_neg (by omega)]
    have hat : ∀ (t : Tmp) (s : SV), (restrictS mk 0 (S i).1)[t]? = some s → s.Rel (cutE E1 n) (a1.tmps.getD t Go.undef) := fun t s ht => by
      have hls : s.low n = true := by
        have := e2.1
        rw [List.all_eq_true] at this
        exact this s (List.mem_of_getElem? ht)
      rcases restrictS_get ht with rfl | ⟨b1, b2⟩
      · trivial
      · rw [Nat.zero_add] at b1
        have := hts t (by rw [e6, Nat.testBit_or, b1, Bool.true_or])
        simp only [HS, b2] at this
        exact SV.lower hlow1 hls this
    have hrun := ((runOne_ok hcall e1).2 ρ ef ek).2 (cutE E1 n) a1 w1 (hG.ext.ρ.trans hρ) hgood (by rw [restrictS_len, l2]; exact hG.sz) (fun t s hgd ht => hat t s ht) (evX_ok hat) K Q
    unfold wpOp
    have ho' : ops.toArray[i]? = some o := by simpa using ho
    simp only [ho']
    refine hrun fun E2 v w' x1 x2 x3 x4 => ?_
    simp only [restrictM_len, ← hn] at x1
    -- the environment behind the step
    obtain ⟨E', P1, P2, P3, P4⟩ : ∃ E', Le E1 E' ∧ Low E2 E' (n + (newM o.op n st1.mem).length) ∧ (∀ b g, E'.blk b = some g → E1.blk b = some g ∨ (b = n ∧ (newBit (newM o.op n st1.mem) n).testBit b = true ∧ w1.heap.size ≤ g ∧ g < w'.heap.size ∧ E2.blk n = some g)) ∧
        ∀ b p, E'.val b = some p → E1.val b = some p ∨ (b = n ∧ (newBit (newM o.op n st1.mem) n).testBit b = true ∧ E2.val n = some p ∧ (0 < p.2.length → From (cutE E1 n) w1 p.1)) := by
      rcases newM_cases e3' with hnw | ⟨y, hnw, hB, _⟩
      · refine ⟨E1, ⟨rfl, fun _ _ h => h, fun _ _ h => h⟩, ⟨x1.ρ, fun b g hb hg' => ?_, fun b p hb hp => ?_⟩, fun b g hb => .inl hb, fun b p hb => .inl hb⟩
        · rw [hnw] at hb
          rcases x1.new b g hg' with h | ⟨h, _⟩
          · exact (cutE_some h).2
          · simp at hb; omega
        · rw [hnw] at hb
          rcases x1.vnew b p hp with h | ⟨h, _⟩
          · exact (cutE_val h).2
          · simp at hb; omega
      · have hnone : E1.blk n = none ∧ E1.val n = none := by
          have := htb n (by rw [e8, hnw, Nat.testBit_or]; simp [newBit, Nat.one_shiftLeft])
          rw [List.getElem?_eq_none (by omega)] at this
          exact this
        have hbit : (newBit (newM o.op n st1.mem) n).testBit n = true := by rw [hnw]; simp [newBit, Nat.one_shiftLeft]
        refine ⟨{ E1 with blk := fun b => if b = n then E2.blk n else E1.blk b, val := fun b => if b = n then E2.val n else E1.val b }, ⟨rfl, fun b g hb => ?_, fun b p hb => ?_⟩, ⟨x1.ρ, fun b g' hb hg' => ?_, fun b p hb hp => ?_⟩, fun b g' hb => ?_, fun b p hb => ?_⟩
        · have : b ≠ n := fun e => by rw [e, hnone.1] at hb; cases hb
          simp only [if_neg this]; exact hb
        · have : b ≠ n := fun e => by rw [e, hnone.2] at hb; cases hb
          simp only [if_neg this]; exact hb
        · rw [hnw] at hb
          simp only
          split
          · rename_i e; subst e; exact hg'
          · rename_i e
            rcases x1.new b g' hg' with h | ⟨h, _⟩
            · exact (cutE_some h).2
            · simp at hb; omega
        · rw [hnw] at hb
          simp only
          split
          · rename_i e; subst e; exact hp
          · rename_i e
            rcases x1.vnew b p hp with h | ⟨h, _⟩
            · exact (cutE_val h).2
            · simp at hb; omega
        · simp only at hb
          split at hb
          · rename_i e
            refine .inr ⟨e, by rw [e]; exact hbit, ?_, x3.lt n g' hb, hb⟩
            rcases x1.new n g' hb with h | ⟨_, h⟩
            · have := (cutE_some h).1; omega
            · exact h
          · exact .inl hb
        · simp only at hb
          split at hb
          · rename_i e
            refine .inr ⟨e, by rw [e]; exact hbit, hb, ?_⟩
            rcases x1.vnew n p hb with h | ⟨_, h⟩
            · have := (cutE_val h).1; omega
            · exact h
          · exact .inl hb
    have hvl := SV.lower P2 e2' x2
    have hsz : (a1.put o.dst v).tmps.size = a1.tmps.size := by cases o.dst <;> simp [Act.put]
    have hnst : st.mem.length ≤ n := by rw [hn]; exact l3.1
    have hvis : ∀ k, Vis (cutE E1 n) (restrictM fp 0 (S i).2) k → ∃ c, E1.blk c = some k := fun k ⟨b, B, _, b2⟩ => ⟨b, (cutE_some b2).2⟩
    have hvl1 : Vals E1 w' := hG.vl.fr x4 hvis
    have hfrom : ∀ v, From (cutE E1 n) w1 v → From E w v := fun v hv k hk => by
      rcases hv k hk with h1 | ⟨c, u, l, c1, c2, c3⟩
      · exact .inl (Nat.le_trans hG.fr.size h1)
      · rcases hG.ext.vnew c (u, l) (cutE_val c1).2 with h2 | ⟨_, h2⟩
        · exact .inr ⟨c, u, l, h2, c2, c3⟩
        · exact h2 c2 k c3
    refine hK E' _ w' ⟨by rw [hsz]; exact hG.sz, ?_, ?_, ?_, ?_, ?_, ?_⟩ ?_ ?_ ?_ ?_
    · cases o.dst <;> exact hG.df
    · refine hG.fr.trans' x4 fun g hgl hv => ?_
      obtain ⟨b, B, b1, b2⟩ := hv
      have h2 := (cutE_some b2).2
      rcases hG.ext.new b g h2 with h3 | ⟨_, h3⟩
      · have hbl : b < st.mem.length := Nat.lt_of_not_le fun hle => by rw [hg.len b hle] at h3; cases h3
        obtain ⟨B0, hB0⟩ := l3.2 b B (restrictM_get b1).2 hbl
        exact ⟨b, B0, hB0, h3⟩
      · omega
    · refine ⟨P1.ρ.trans hG.ext.ρ, fun b g hb => P1.at_ b g (hG.ext.at_ b g hb), fun b g hb => ?_, fun b p hb => P1.vat b p (hG.ext.vat b p hb), fun b p hb => ?_⟩
      · rcases P3 b g hb with h | ⟨h1, _, h2, _⟩
        · exact hG.ext.new b g h
        · exact .inr ⟨by omega, Nat.le_trans hG.fr.size h2⟩
      · rcases P4 b p hb with h | ⟨h1, _, _, h2⟩
        · exact hG.ext.vnew b p h
        · exact .inr ⟨by omega, fun hp => hfrom _ (h2 hp)⟩
    · intro b c g hb hc
      rcases P3 b g hb with h1 | ⟨h1, _, h2, _⟩ <;> rcases P3 c g hc with k1 | ⟨k1, _, k2, _⟩
      · exact hG.nd b c g h1 k1
      · have := hG.lt b g h1; omega
      · have := hG.lt c g k1; omega
      · omega
    · intro b g hb
      rcases P3 b g hb with h1 | ⟨_, _, _, h2⟩
      · exact Nat.lt_of_lt_of_le (hG.lt b g h1) x4.size
      · exact h2.1
    · refine ⟨fun b u m hu => ?_, fun b u m hu hm' c g hc hk => ?_⟩
      · rcases P4 b _ hu with h1 | ⟨_, _, h1, _⟩
        · exact hvl1.rd b u m h1
        · exact x3.vl.rd n u m h1
      · rcases P4 b _ hu with h1 | ⟨_, _, h1, h3⟩ <;> rcases P3 c g hc with k1 | ⟨_, _, k1, _, k2⟩
        · exact hG.vl.ap b u m h1 hm' c g k1 hk
        · have := (hG.vl.rd b u m h1).blk (by simpa [bvs] using hm') hk
          omega
        · rcases h3 hm' g hk with h4 | ⟨d, y, z, d1, d2, d3⟩
          · have := hG.lt c g k1; omega
          · exact hG.vl.ap d y z (cutE_val d1).2 d2 c g k1 d3
        · exact x3.vl.ap n u m h1 hm' n g k2 hk
    · intro t ht
      rw [e7] at ht
      cases hd : o.dst with
      | none => rw [hd] at ht; simp [bit] at ht
      | some d =>
        rw [hd, bit_test] at ht
        have ht : d = t := of_decide_eq_true ht
        subst ht
        simp only [HS, e4, hd, putX]
        by_cases hdl : d < (S i).1.length
        · rw [List.getElem?_set_self hdl]
          have : (a1.put (some d) v).tmps.getD d Go.undef = v := by simp [Act.put, hG.sz, ← l2, hdl]
          simp only [this]; exact hvl
        · rw [List.getElem?_eq_none (by rw [List.length_set]; exact Nat.le_of_not_lt hdl)]; trivial
    · intro b hb
      rw [e9, Nat.testBit_or, Bool.or_eq_true] at hb
      show HB E' b ((S (i + 1)).2[b]?) w'
      by_cases hbl : b < n
      · obtain ⟨y, y1, y2, y3, y4⟩ := merge_get e3 (b := b) (by omega)
        rw [Nat.zero_add] at y2 y3 y4
        have hch : (chM fp 0 (S i).2 st1.mem).testBit b = true := by
          rcases hb with hb | hb
          · exact hb
          · rcases newM_cases e3' with hnw | ⟨B, hnw, _⟩ <;> rw [hnw] at hb
            · simp [newBit] at hb
            · simp [newBit, Nat.one_shiftLeft, Nat.testBit_two_pow] at hb; omega
        rw [y4] at hch
        simp only [Bool.and_eq_true] at hch
        rw [e5, List.getElem?_append_left (by rw [mergeM_len]; omega), y2, if_pos hch.1]
        cases y with
        | none => trivial
        | some B =>
          obtain ⟨g, q1, q2, q3⟩ := x3.at_ b B y1
          obtain ⟨o1, o2⟩ := oks_lower P2 (y3 hch.1 B rfl) q3
          exact ⟨g, P2.at_ b g (by omega) q1, by rw [← o2]; exact q2, o1⟩
      · rw [chM_high fp 0 _ _ b (by omega)] at hb
        have hb : (newBit (newM o.op n st1.mem) n).testBit b = true := by simpa using hb
        rcases newM_cases e3' with hnw | ⟨y, hnw, hB, hBl⟩
        · rw [hnw] at hb; simp [newBit] at hb
        · have hbn : n = b := by rw [hnw] at hb; simpa [newBit, Nat.one_shiftLeft, Nat.testBit_two_pow] using hb
          subst hbn
          rw [e5, List.getElem?_append_right (by rw [mergeM_len]; omega), mergeM_len, ← hn, Nat.sub_self, hnw]
          cases y with
          | none => trivial
          | some B =>
            obtain ⟨g, q1, q2, q3⟩ := x3.at_ n B hB
            rw [hnw] at P2
            obtain ⟨o1, o2⟩ := oks_lower P2 (hBl B rfl) q3
            exact ⟨g, P2.at_ n g (by simp) q1, by rw [← o2]; exact q2, o1⟩
    · intro t x ht hx
      cases x with
      | none => trivial
      | some s' =>
        simp only [HS] at hx ⊢
        rw [e7] at ht
        cases hd : o.dst with
        | none => exact Rel_ext P1 hx
        | some d =>
          rw [hd, bit_test] at ht
          have hne : ¬ d = t := of_decide_eq_false ht
          have : (a1.put (some d) v).tmps.getD t Go.undef = a1.tmps.getD t Go.undef := by simp [Act.put, Array.getElem?_setIfInBounds_ne hne]
          rw [this]; exact Rel_ext P1 hx
    · intro b x hb hx
      rw [e9, Nat.testBit_or, Bool.or_eq_false_iff] at hb
      unfold HB at hx ⊢
      split at hx
      · rename_i B
        obtain ⟨g, q1, q2, q3⟩ := hx
        refine ⟨g, P1.at_ b g q1, ?_, (dens_ext P1 q3).2⟩
        rw [(dens_ext P1 q3).1]
        have hgl : g < w1.heap.size := (Array.getElem?_eq_some_iff.1 q2).1
        by_cases hv : Vis (cutE E1 n) (restrictM fp 0 (S i).2) g
        · obtain ⟨b', B', b1, b2⟩ := hv
          obtain rfl : b' = b := hG.nd _ _ _ (cutE_some b2).2 q1
          obtain ⟨m1, m2⟩ := restrictM_get b1
          rw [Nat.zero_add] at m1
          have hbl : b' < (S i).2.length := (List.getElem?_eq_some_iff.1 m2).1
          obtain ⟨y, y1, y2, y3, y4⟩ := merge_get e3 hbl
          rw [Nat.zero_add] at y4
          have hb := hb.1
          rw [y4, m1, Bool.true_and, Bool.not_eq_false'] at hb
          have hy := blkEqb_eq hb
          rw [List.getD_eq_getElem?_getD, m2] at hy
          simp only [Option.getD_some] at hy
          subst hy
          obtain ⟨g', r1, r2, r3⟩ := x3.at_ b' B' y1
          obtain ⟨g'', s1, s2, s3⟩ := hgood.at_ b' B' b1
          rw [b2] at s1; cases s1
          have : g' = g := by
            have := x1.at_ _ _ b2
            rw [this] at r1; exact (Option.some.inj r1).symm
          subst this
          rw [r2, (dens_ext x1.le s3).1, ← s2]; exact q2
        · rw [x4.block g hgl hv]; exact q2
      · trivial
      · constructor
        · cases he : E'.blk b with
          | none => rfl
          | some g =>
            rcases P3 b g he with h1 | ⟨_, h1, _⟩
            · rw [hx.1] at h1; cases h1
            · rw [h1] at hb; cases hb.2
        · cases he : E'.val b with
          | none => rfl
          | some g =>
            rcases P4 b g he with h1 | ⟨_, h1, _⟩
            · rw [hx.2] at h1; cases h1
            · rw [h1] at hb; cases hb.2
  · intro t
    rw [hS0]
    unfold HS
    split
    · rename_i s hs'; exact hs.at_ t s hs'
    · trivial
  · intro b
    rw [hS0]
    unfold HB
    split
    · rename_i B hB; exact hg.at_ b B hB
    · trivial
    · rename_i hB
      have hlb := Nat.le_of_not_lt fun hl => by rw [List.getElem?_eq_getElem hl] at hB; cases hB
      exact ⟨hg.len b hlb, hg.vlen b hlb⟩
  · intro E' a' w' hG hts htb
    rw [hSn] at hts htb
    obtain ⟨l2, l3⟩ := hlen ops.length (Nat.le_refl _)
    rw [hSn] at l2 l3
    refine hQ E' a' w' hG.ext ⟨hG.sz.trans l2.symm, hG.df, fun t s hts' => ?_⟩ ⟨fun b hb => ?_, hG.nd, hG.lt, fun b B hb => ?_, hG.vl, fun b hb => ?_⟩ hG.fr
    · have := hts t
      simp only [HS, hts'] at this
      exact this
    · have := htb b
      rw [List.getElem?_eq_none hb] at this
      exact this.1
    · have := htb b
      simp only [HB, hb] at this
      exact this
    · have := htb b
      rw [List.getElem?_eq_none hb] at this
      exact this.2
end Go.Sx
