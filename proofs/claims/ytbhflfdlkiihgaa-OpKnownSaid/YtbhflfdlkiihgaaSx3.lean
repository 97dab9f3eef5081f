/- The pure steps of a walk, over names. No condition. -/
import Derived.Test.YtbhflfdlkiihgaaSx2
namespace Go.Sx
open Go Go.RowKit Go.Bx

abbrev Ev := Operand → Option SV
/-- A literal. -/
def ofCell : Value → Option C
  | .int k n => if inB k n then some (.int k (.l n)) else none
  | .bool b => some (.bool (.l (if b then 1 else 0)))
  | .string s => some (.str s.data.toList)
  | .pointer none => some .nilp
  | .slice none 0 0 => some .nils
  | .tuple vs => if vs.size = 0 then some .undef else none
  | _ => none
def ofCells : List Value → Option (List C)
  | [] => some []
  | v :: l => match ofCell v, ofCells l with
    | some c, some cs => some (c :: cs)
    | _, _ => none
def ofVal : Value → Option SV
  | .agg cs => (ofCells cs.toList).map .agg
  | v => (ofCell v).map .c
theorem ofCell_ok {v : Value} {c : C} (h : ofCell v = some c) (E : Env) : v = c.den E ∧ c.ok E := by
  unfold ofCell at h
  split at h
  · split at h
    · rename_i hb; cases h; exact ⟨rfl, inB_ok hb⟩
    · cases h
  · rename_i b; cases h; refine ⟨?_, trivial⟩; cases b <;> rfl
  · cases h; exact ⟨by simp [C.den], trivial⟩
  · cases h; exact ⟨rfl, trivial⟩
  · cases h; exact ⟨rfl, trivial⟩
  · split at h
    · rename_i vs hz; cases h; exact ⟨by rw [Array.eq_empty_of_size_eq_zero hz]; rfl, trivial⟩
    · cases h
  · cases h
theorem ofCells_ok {E : Env} : ∀ {l : List Value} {cs : List C}, ofCells l = some cs → l = dens E cs ∧ oks E cs
  | [], cs, h => by cases h; exact ⟨rfl, fun _ h => by cases h⟩
  | v :: l, cs, h => by
    unfold ofCells at h
    split at h
    · rename_i c cs' h1 h2
      cases h
      obtain ⟨e1, o1⟩ := ofCell_ok h1 E
      obtain ⟨e2, o2⟩ := ofCells_ok (E := E) h2
      refine ⟨by rw [e1, e2]; rfl, fun x hx => ?_⟩
      rcases List.mem_cons.1 hx with rfl | hx
      · exact o1
      · exact o2 x hx
    · cases h
theorem ofVal_ok {v : Value} {s : SV} (h : ofVal v = some s) (E : Env) : s.Rel E v := by
  unfold ofVal at h
  split at h
  · rename_i cs
    obtain ⟨l, hl, rfl⟩ := Option.map_eq_some_iff.1 h
    obtain ⟨e, o⟩ := ofCells_ok (E := E) hl
    exact ⟨by rw [← e], o⟩
  · obtain ⟨c, hc, rfl⟩ := Option.map_eq_some_iff.1 h
    exact ofCell_ok hc E
def evX (slots : List SV) : Ev
  | .tmp t => slots[t]?
  | .const v => ofVal v
  | _ => none

/-- What two integers make. -/
def isTotal (op : BinOp) (k k' : IntKind) (b : Ref) : Bool :=
  match op with
  | .add | .sub | .mul | .and | .or | .xor | .andNot => decide (k' = k)
  | .quo | .rem => decide (k' = k) && (match b with | .l (.ofNat (_ + 1)) => true | _ => false)
  | .shl | .shr => (match b with | .l (.ofNat _) => true | _ => false)
  | _ => false
def isCmp (op : BinOp) : Bool :=
  match op with
  | .eql | .neq | .lss | .leq | .gtr | .geq => true
  | _ => false
/-- A shift by a number that is not known. -/
def shBin (op : BinOp) (k : IntKind) (a b : Ref) (n : Nat) : Option (SV × List Fact × Nat) :=
  match op, b with
  | .shl, .v i => some (.c (.int k (.v n)), [.idx i 1000000, .shv n true k a i], n + 1)
  | .shr, .v i => some (.c (.int k (.v n)), [.idx i 1000000, .shv n false k a i], n + 1)
  | _, _ => none
def intBin (op : BinOp) (k : IntKind) (a : Ref) (k' : IntKind) (b : Ref) (n : Nat) : Option (SV × List Fact × Nat) :=
  match a, b with
  | .l x, .l y => if isTotal op k k' (.l y) then (binZ op k x y).map fun z => (.c (.int k (.l z)), [], n)
    else if isCmp op && decide (k' = k) then (cmpZ op x y).map fun z => (.c (.bool (.l (b2i z))), [], n) else none
  | a, b => if isTotal op k k' b then some (.c (.int k (.v n)), [.bin n op k a b], n + 1)
    else if isCmp op && decide (k' = k) then some (.c (.bool (.v n)), [.cmp n op a b], n + 1) else shBin op k a b n
theorem isTotal_spec {op : BinOp} {k k' : IntKind} {b : Ref} (h : isTotal op k k' b = true) : k' = k ∨ op = .shl ∨ op = .shr := by
  unfold isTotal at h
  split at h <;> simp_all
theorem b2i_ne (z : Bool) : decide (b2i z ≠ 0) = z := by cases z <;> rfl
theorem intBin_ok {P : Program} {fns : Fns} {E : Env} {op : BinOp} {k k' : IntKind} {a b : Ref} {n : Nat} {s : SV} {fs : List Fact} {n' : Nat} (h : intBin op k a k' b n = some (s, fs, n'))
    (ha : InR k (a.den E.ρ)) (hf : ∀ f ∈ fs, f.ok fns E.ρ) (t : TypeId) :
    ∃ v, s.Rel E v ∧ ∀ w, (binOp op t (.int k (a.den E.ρ)) (.int k' (b.den E.ρ))).run P w = .ok v w := by
  have gen : ∀ a b : Ref, InR k (a.den E.ρ) → (∀ f ∈ fs, f.ok fns E.ρ) → (if isTotal op k k' b then some (SV.c (.int k (.v n)), [Fact.bin n op k a b], n + 1) else if isCmp op && decide (k' = k) then some (.c (.bool (.v n)), [.cmp n op a b], n + 1) else shBin op k a b n) = some (s, fs, n') →
      ∃ v, s.Rel E v ∧ ∀ w, (binOp op t (.int k (a.den E.ρ)) (.int k' (b.den E.ρ))).run P w = .ok v w := by
    intro a b ha hf h
    split at h
    · rename_i ht
      cases h
      have := hf _ (List.mem_singleton.2 rfl)
      exact ⟨_, ⟨rfl, inR_binZ ha this⟩, fun w => run_binZ t (isTotal_spec ht) this w⟩
    · split at h
      · rename_i hc
        cases h
        simp only [Bool.and_eq_true, decide_eq_true_eq] at hc
        have := hf _ (List.mem_singleton.2 rfl)
        rw [hc.2]
        exact ⟨_, ⟨rfl, trivial⟩, fun w => run_cmpZ t this w⟩
      · unfold shBin at h
        split at h
        · rename_i i _ _ _
          cases h
          obtain ⟨h0, _⟩ := hf _ (List.mem_cons_self ..)
          have h1 : E.ρ n = shvZ true k (a.den E.ρ) (E.ρ i) := hf (.shv n true k a i) (by simp)
          have h2 := shvZ_bin (left := true) (k := k) (x := a.den E.ρ) h0
          rw [← h1] at h2
          exact ⟨_, ⟨rfl, inR_binZ ha h2⟩, fun w => run_binZ t (.inr (.inl rfl)) h2 w⟩
        · rename_i i _ _ _
          cases h
          obtain ⟨h0, _⟩ := hf _ (List.mem_cons_self ..)
          have h1 : E.ρ n = shvZ false k (a.den E.ρ) (E.ρ i) := hf (.shv n false k a i) (by simp)
          have h2 := shvZ_bin (left := false) (k := k) (x := a.den E.ρ) h0
          rw [← h1] at h2
          exact ⟨_, ⟨rfl, inR_binZ ha h2⟩, fun w => run_binZ t (.inr (.inr rfl)) h2 w⟩
        · cases h
  unfold intBin at h
  split at h
  · rename_i x y
    split at h
    · rename_i ht
      obtain ⟨z, hz, he⟩ := Option.map_eq_some_iff.1 h
      cases he
      exact ⟨_, ⟨rfl, inR_binZ ha hz⟩, fun w => run_binZ t (isTotal_spec ht) hz w⟩
    · split at h
      · rename_i hc
        simp only [Bool.and_eq_true, decide_eq_true_eq] at hc
        obtain ⟨z, hz, he⟩ := Option.map_eq_some_iff.1 h
        cases he
        rw [hc.2]
        exact ⟨_, ⟨rfl, trivial⟩, fun w => by
          have e : C.den E (.bool (.l (b2i z))) = .bool z := congrArg Value.bool (b2i_ne z)
          rw [e]; exact run_cmpZ t hz w⟩
      · cases h
  · exact gen a b ha hf h

/-- Arrays held against one another. -/
def refsOf (k : IntKind) : List C → Option (List Ref)
  | [] => some []
  | .int k' r :: l => if k' = k then (refsOf k l).map (r :: ·) else none
  | _ => none
theorem refsOf_ok {k : IntKind} {E : Env} : ∀ {l : List C} {rs : List Ref}, refsOf k l = some rs → dens E l = (rs.map (Ref.den E.ρ)).map (Value.int k) ∧ rs.length = l.length ∧ (oks E l → ∀ z ∈ rs.map (Ref.den E.ρ), InR k z)
  | [], rs, h => by cases h; exact ⟨rfl, rfl, fun _ z hz => by cases hz⟩
  | .int k' r :: l, rs, h => by
    unfold refsOf at h
    split at h
    · rename_i hk
      obtain ⟨rs', h', rfl⟩ := Option.map_eq_some_iff.1 h
      obtain ⟨e, hl, ho⟩ := refsOf_ok (E := E) h'
      subst hk
      refine ⟨by simp only [dens, List.map_cons] at e ⊢; rw [e]; rfl, by simp [hl], fun hok z hz => ?_⟩
      rw [List.map_cons] at hz
      rcases List.mem_cons.1 hz with rfl | hz
      · exact hok (.int k' r) (by simp)
      · exact ho (fun c hc => hok c (by simp [hc])) z hz
    · cases h
  | .bool _ :: _, _, h | .ptr .. :: _, _, h | .ptrx .. :: _, _, h | .slc .. :: _, _, h | .nilp :: _, _, h | .nils :: _, _, h | .strv _ :: _, _, h | .opq .. :: _, _, h | .str _ :: _, _, h | .undef :: _, _, h => by simp [refsOf] at h
/-- The array's length and its elements' kind. -/
def intArr (P : Program) (t : TypeId) : Option (Nat × IntKind) :=
  match P.underlying t with
  | some (.array n e) => match P.underlying e, P.info? e with
    | some (.int k), some i => if Nat.beq i.size 1 && !P.eqGuardType P.depth t then some (n, k) else none
    | _, _ => none
  | _ => none
def litEq : List (Ref × Ref) → Option Bool
  | [] => some true
  | (.l a, .l b) :: l => match litEq l with
    | some r => some (decide (a = b) && r)
    | none => none
  | _ => none
theorem litEq_ok {ρ : Nat → Int} : ∀ {l : List (Ref × Ref)} {r : Bool}, litEq l = some r → (l.all fun p => decide (p.1.den ρ = p.2.den ρ)) = r
  | [], r, h => by cases h; rfl
  | (.l a, .l b) :: l, r, h => by
    unfold litEq at h
    split at h
    · rename_i r' h'
      cases h
      simp only [List.all_cons, litEq_ok (ρ := ρ) h']; rfl
    · cases h
  | (.v _, _) :: _, _, h => by simp [litEq] at h
  | (.l _, .v _) :: _, _, h => by simp [litEq] at h
def aggEq (P : Program) (neg : Bool) (t : TypeId) (l m : List C) (n : Nat) : Option (SV × List Fact × Nat) :=
  match intArr P t with
  | some (len, k) => match refsOf k l, refsOf k m with
    | some rs, some qs => if Nat.beq rs.length len && Nat.beq qs.length len then
        match litEq (rs.zip qs) with
        | some b => some (.c (.bool (.l (b2i (if neg then !b else b)))), [], n)
        | none => if neg then some (.c (.bool (.v (n + 1))), [.eqs n (rs.zip qs), .not (n + 1) (.v n)], n + 2) else some (.c (.bool (.v n)), [.eqs n (rs.zip qs)], n + 1)
      else none
    | _, _ => none
  | none => none
theorem zip_all {ρ : Nat → Int} : ∀ {rs qs : List Ref}, rs.length = qs.length → ((rs.zip qs).all fun p => decide (p.1.den ρ = p.2.den ρ)) = (rs.map (Ref.den ρ) == qs.map (Ref.den ρ))
  | [], [], _ => rfl
  | r :: rs, q :: qs, h => by
    have ih := zip_all (ρ := ρ) (rs := rs) (qs := qs) (by simpa using h)
    simp only [List.zip_cons_cons, List.all_cons, ih, List.map_cons, List.cons_beq_cons]
    rfl
  | [], _ :: _, h => by simp at h
  | _ :: _, [], h => by simp at h
theorem aggEq_ok {P : Program} {fns : Fns} {E : Env} {neg : Bool} {t : TypeId} {l m : List C} {n : Nat} {s : SV} {fs : List Fact} {n' : Nat} (h : aggEq P neg t l m n = some (s, fs, n')) (hf : ∀ f ∈ fs, f.ok fns E.ρ) (x y : Operand) :
    ∃ v, s.Rel E v ∧ ∀ w, (do eqGuard (if neg then .neq else .eql) t x y (.agg (dens E l).toArray) (.agg (dens E m).toArray); binOp (if neg then .neq else .eql) t (.agg (dens E l).toArray) (.agg (dens E m).toArray) : Sem Value).run P w = .ok v w := by
  unfold aggEq at h
  split at h
  · rename_i len k ha
    unfold intArr at ha
    split at ha
    · rename_i nn e he
      split at ha
      · rename_i k2 i hk hi
        split at ha
        · rename_i hc
          cases ha
          simp only [Bool.and_eq_true, Bool.not_eq_true'] at hc
          split at h
          · rename_i rs qs h1 h2
            split at h
            · rename_i hlen
              simp only [Bool.and_eq_true] at hlen
              have l1 := Nat.eq_of_beq_eq_true hlen.1
              have l2 := Nat.eq_of_beq_eq_true hlen.2
              have hsz := Nat.eq_of_beq_eq_true hc.1
              have run : ∀ w, (Op.equalIn 10000 t (.agg (dens E l).toArray) (.agg (dens E m).toArray)).run P w = .ok (rs.map (Ref.den E.ρ) == qs.map (Ref.den E.ρ)) w := fun w => by
                rw [(refsOf_ok (E := E) h1).1, (refsOf_ok (E := E) h2).1]
                exact run_eqInts w t e len k he hk hi hsz _ _ (by simpa using l1) (by simpa using l2)
              rw [← zip_all (by omega)] at run
              generalize hb : ((rs.zip qs).all fun p => decide (p.1.den E.ρ = p.2.den E.ρ)) = b at run
              have run2 : ∀ w, (do eqGuard (if neg then .neq else .eql) t x y (.agg (dens E l).toArray) (.agg (dens E m).toArray); binOp (if neg then .neq else .eql) t (.agg (dens E l).toArray) (.agg (dens E m).toArray) : Sem Value).run P w = .ok (.bool (if neg then !b else b)) w := fun w => by
                cases neg <;> simp [run_eqGuard_agg (hm := hc.2), binOp, Op.equal, Op.maxDepth, run]
              split at h
              · rename_i b' hb'
                cases h
                have := litEq_ok (ρ := E.ρ) hb'
                rw [hb] at this
                subst this
                refine ⟨_, ⟨rfl, trivial⟩, fun w => ?_⟩
                rw [run2 w]
                exact congrArg (fun b => Result.ok (Value.bool b) w) (b2i_ne _).symm
              · cases neg with
                | true =>
                  simp only [if_true] at h
                  cases h
                  have f1 := hf (.eqs n (rs.zip qs)) (by simp)
                  have f2 := hf (.not (n + 1) (.v n)) (by simp)
                  simp only [Fact.ok] at f1 f2
                  rw [hb] at f1
                  refine ⟨_, ⟨rfl, trivial⟩, fun w => ?_⟩
                  rw [run2 w]
                  exact congrArg (fun b => Result.ok (Value.bool b) w) (by rw [if_pos rfl, ← f1]; exact f2.symm)
                | false =>
                  simp only [Bool.false_eq_true, if_false] at h
                  cases h
                  have f1 := hf (.eqs n (rs.zip qs)) (by simp)
                  simp only [Fact.ok] at f1
                  rw [hb] at f1
                  refine ⟨_, ⟨rfl, trivial⟩, fun w => ?_⟩
                  rw [run2 w]
                  exact congrArg (fun b => Result.ok (Value.bool b) w) (by rw [if_neg (by simp), ← f1]; rfl)
            · cases h
          · cases h
        · cases ha
      · cases ha
    · cases ha
  · cases h
end Go.Sx
