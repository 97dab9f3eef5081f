/- Strings over names: held against one another, alone and in structs; their lengths, their bytes. No condition. -/
import Derived.Test.YtbhflfdlkiihgaaSx5
namespace Go.Sx
open Go Go.RowKit Go.Bx

/-- A string's number. -/
def strRef : C → Option Ref
  | .strv r => some r
  | .str l => if Nat.ble l.length 1000000 then some (.l (codZ l)) else none
  | _ => none
theorem strRef_ok {E : Env} {c : C} {r : Ref} (h : strRef c = some r) (ho : c.ok E) : c.den E = .string ⟨(decZ (r.den E.ρ)).toArray⟩ ∧ Str (r.den E.ρ) := by
  unfold strRef at h
  split at h
  · cases h; exact ⟨rfl, ho⟩
  · split at h
    · rename_i l hl
      cases h
      have hl := Nat.le_of_ble_eq_true hl
      exact ⟨by show Value.string _ = Value.string ⟨(decZ (codZ l)).toArray⟩; rw [decZ_codZ], Str.cod (by unfold maxLen; omega)⟩
    · cases h
  · cases h
theorem strs_eq {x y : Int} (hx : Str x) (hy : Str y) : (decide (decZ x = decZ y)) = decide (x = y) := by
  have := decZ_inj hx.nn hy.nn
  by_cases h : x = y
  · subst h; simp
  · rw [decide_eq_false h, decide_eq_false fun e => h (this.1 e)]
def strEqV (op : BinOp) (a b : Ref) (n : Nat) : Option (SV × List Fact × Nat) :=
  match op with
  | .eql => some (.c (.bool (.v n)), [.cmp n .eql a b], n + 1)
  | .neq => some (.c (.bool (.v n)), [.cmp n .neq a b], n + 1)
  | _ => none
section
variable {P : Program} {fns : Fns} {E : Env}
theorem run_strOpT (w : World) (t : TypeId) (a b : List UInt8) : (binOp .eql t (.string ⟨a.toArray⟩) (.string ⟨b.toArray⟩)).run P w = .ok (.bool (decide (a = b))) w ∧ (binOp .neq t (.string ⟨a.toArray⟩) (.string ⟨b.toArray⟩)).run P w = .ok (.bool !(decide (a = b))) w := by
  have e : (a == b) = decide (a = b) := by by_cases h : a = b <;> simp [h]
  constructor <;> simp [binOp, Op.stringOp, ByteArray.toList_mk, e]
theorem strEqV_ok {op : BinOp} {t : TypeId} {p q : Ref} {n : Nat} {s : SV} {fs : List Fact} {n' : Nat} (h : strEqV op p q n = some (s, fs, n')) (hp : Str (p.den E.ρ)) (hq : Str (q.den E.ρ)) (hf : ∀ f ∈ fs, f.ok fns E.ρ) :
    ∃ v, s.Rel E v ∧ ∀ w, (binOp op t (.string ⟨(decZ (p.den E.ρ)).toArray⟩) (.string ⟨(decZ (q.den E.ρ)).toArray⟩)).run P w = .ok v w := by
  unfold strEqV at h
  split at h
  · cases h
    have hn := hf _ (List.mem_singleton.2 rfl)
    simp only [Fact.ok, cmpZ, Option.some.injEq] at hn
    refine ⟨_, ⟨rfl, trivial⟩, fun w => ?_⟩
    rw [(run_strOpT w t _ _).1, strs_eq hp hq, C.den]
    exact congrArg (fun b => Result.ok (Value.bool b) w) hn
  · cases h
    have hn := hf _ (List.mem_singleton.2 rfl)
    simp only [Fact.ok, cmpZ, Option.some.injEq] at hn
    refine ⟨_, ⟨rfl, trivial⟩, fun w => ?_⟩
    rw [(run_strOpT w t _ _).2, strs_eq hp hq, C.den]
    refine congrArg (fun b => Result.ok (Value.bool b) w) (Eq.trans ?_ hn)
    rw [Bool.eq_iff_iff]; simp
  · cases h

/-- Values of any type held against one another: the integers that are to be equal. -/
def eqFs (P : Program) (rec : TypeId → SV → SV → Option (List (Ref × Ref))) (l m : List C) : List Field → Option (List (Ref × Ref))
  | [] => some []
  | f :: fs => if f.name == "_" then none else match partX P f.type l f.offset, partX P f.type m f.offset with
    | some a, some b => match rec f.type a b, eqFs P rec l m fs with
      | some x, some y => some (x ++ y)
      | _, _ => none
    | _, _ => none
def eqEs (P : Program) (rec : TypeId → SV → SV → Option (List (Ref × Ref))) (e : TypeId) (sz : Nat) (l m : List C) : List Nat → Option (List (Ref × Ref))
  | [] => some []
  | i :: is => match partX P e l (i * sz), partX P e m (i * sz) with
    | some a, some b => match rec e a b, eqEs P rec e sz l m is with
      | some x, some y => some (x ++ y)
      | _, _ => none
    | _, _ => none
def eqSV (P : Program) : Nat → TypeId → SV → SV → Option (List (Ref × Ref))
  | 0, _, _, _ => none
  | d + 1, t, a, b => match P.underlying t with
    | some (.int _) => match a, b with
      | .c (.int k x), .c (.int k' y) => if decide (k = k') then some [(x, y)] else none
      | _, _ => none
    | some .string => match a, b with
      | .c x, .c y => match strRef x, strRef y with
        | some p, some q => some [(p, q)]
        | _, _ => none
      | _, _ => none
    | some (.struct _) => match a, b with
      | .agg l, .agg m => if P.stoodInHeld t then none else eqFs P (eqSV P d) l m (P.fieldsOf t).toList
      | _, _ => none
    | some (.array n e) => match a, b with
      | .agg l, .agg m => match sizeX P e with
        | some sz => eqEs P (eqSV P d) e sz l m (List.range' 0 n 1)
        | none => none
      | _, _ => none
    | _ => none
theorem allp_append (ρ : Nat → Int) (x y : List (Ref × Ref)) : ((x ++ y).all fun p => decide (p.1.den ρ = p.2.den ρ)) = ((x.all fun p => decide (p.1.den ρ = p.2.den ρ)) && (y.all fun p => decide (p.1.den ρ = p.2.den ρ))) := List.all_append
theorem eqFs_ok {d : Nat} {rec : TypeId → SV → SV → Option (List (Ref × Ref))}
    (hrec : ∀ t a b ps, rec t a b = some ps → ∀ u v, a.Rel E u → b.Rel E v → ∀ w, (Op.equalIn d t u v).run P w = .ok (ps.all fun p => decide (p.1.den E.ρ = p.2.den E.ρ)) w) {l m : List C} (hl : oks E l) (hm : oks E m) :
    ∀ {fs : List Field} {ps : List (Ref × Ref)}, eqFs P rec l m fs = some ps → ∀ w, (Op.eqFields d (dens E l).toArray (dens E m).toArray fs).run P w = .ok (ps.all fun p => decide (p.1.den E.ρ = p.2.den E.ρ)) w
  | [], ps, h, w => by cases h; simp [Op.eqFields]
  | f :: fs, ps, h, w => by
    unfold eqFs at h
    split at h
    · cases h
    · rename_i hne
      split at h
      · rename_i a b h1 h2
        split at h
        · rename_i x y h3 h4
          cases h
          obtain ⟨u, hu, ru⟩ := partX_ok h1 hl
          obtain ⟨v, hv, rv⟩ := partX_ok h2 hm
          have r1 := hrec _ _ _ _ h3 u v hu hv
          have ih := eqFs_ok hrec hl hm h4 w
          have hne' : f.name ≠ "_" := by simpa using hne
          simp only [Op.eqFields, hne', ne_eq, not_false_eq_true, if_true, Sem.run_bind, ru, rv, r1, Result.andThen_ok]
          rw [allp_append]
          cases hb : (x.all fun p => decide (p.1.den E.ρ = p.2.den E.ρ))
          · simp
          · simp only [Bool.not_true, Bool.false_eq_true, if_false, Bool.true_and]; exact ih
        · cases h
      · cases h
theorem eqSV_ok : ∀ {d : Nat} {t : TypeId} {a b : SV} {ps : List (Ref × Ref)}, eqSV P d t a b = some ps → ∀ (k : Nat) {u v : Value}, a.Rel E u → b.Rel E v → ∀ w, (Op.equalIn (d + k) t u v).run P w = .ok (ps.all fun p => decide (p.1.den E.ρ = p.2.den E.ρ)) w
  | 0, _, _, _, _, h, _, _, _, _, _, _ => by cases h
  | d + 1, t, a, b, ps, h, k, u, v, hu, hv, w => by
    rw [show d + 1 + k = (d + k) + 1 by omega]
    unfold eqSV at h
    split at h
    · rename_i k0 ht
      split at h
      · split at h
        · rename_i kk x kk' y hk
          cases h
          have hk : kk = kk' := of_decide_eq_true hk
          subst hk
          rw [hu.1, hv.1]
          simp only [C.den]
          rw [run_equalIn_int w _ t kk k0 _ _ ht]
          simp only [List.all_cons, List.all_nil, Bool.and_true]
          congr 1
        · cases h
      · cases h
    · rename_i ht
      split at h
      · rename_i x y
        split at h
        · rename_i p q h1 h2
          cases h
          obtain ⟨e1, s1⟩ := strRef_ok h1 hu.2
          obtain ⟨e2, s2⟩ := strRef_ok h2 hv.2
          rw [hu.1, hv.1, e1, e2, run_equalIn_string w _ t _ _ ht]
          simp only [List.all_cons, List.all_nil, Bool.and_true]
          rw [← strs_eq s1 s2, ByteArray.toList_eq, ByteArray.toList_eq]
          have e : ∀ a b : List UInt8, (a == b) = decide (a = b) := fun a b => by by_cases h : a = b <;> simp [h]
          exact congrArg (fun b => Result.ok b w) (e _ _)
        · cases h
      · cases h
    · rename_i fs ht
      split at h
      · rename_i l m
        split at h
        · cases h
        · rename_i hs
          have hs : P.stoodInHeld t = false := by simpa using hs
          have hfs : P.fieldsOf t = fs := by simp [Program.fieldsOf, ht]
          rw [hu.1, hv.1, run_equalIn_struct w (d + k) t _ _ (by rw [hfs]; exact ht) hs]
          exact eqFs_ok (fun t a b ps h u v hu hv w => eqSV_ok h k hu hv w) hu.2 hv.2 h w
      · cases h
    · rename_i n e ht
      split at h
      · rename_i l m
        split at h
        · rename_i sz hsz
          rw [hu.1, hv.1, Op.equalIn]
          simp only [Sem.run_bind, run_underlying ht, Result.andThen_ok, sizeX_run hsz, Std.Legacy.Range.forIn_eq_forIn_range', Std.Legacy.Range.size, Nat.sub_zero, Nat.add_sub_cancel, Nat.div_one]
          generalize List.range' 0 n 1 = is at h
          induction is generalizing ps with
          | nil => cases h; simp
          | cons i is ih =>
            unfold eqEs at h
            split at h
            · rename_i a b h1 h2
              split at h
              · rename_i x y h3 h4
                cases h
                obtain ⟨u', hu', ru⟩ := partX_ok h1 hu.2
                obtain ⟨v', hv', rv⟩ := partX_ok h2 hv.2
                have r1 := eqSV_ok h3 k hu' hv'
                simp only [List.forIn_cons, Sem.run_bind, ru, rv, r1, Result.andThen_ok]
                rw [allp_append]
                cases hb : (x.all fun p => decide (p.1.den E.ρ = p.2.den E.ρ))
                · simp
                · simp only [Bool.not_true, Bool.false_eq_true, if_false, Sem.run_pure, Result.andThen_ok, Bool.true_and]
                  exact ih _ h4
              · cases h
            · cases h
        · cases h
      · cases h
    · cases h
/-- Structs held against one another. -/
def structEq (P : Program) (neg : Bool) (t : TypeId) (l m : List C) (n : Nat) : Option (SV × List Fact × Nat) :=
  if P.eqGuardType P.depth t then none else match eqSV P 20 t (.agg l) (.agg m) with
  | some ps => if neg then some (.c (.bool (.v (n + 1))), [.eqs n ps, .not (n + 1) (.v n)], n + 2) else some (.c (.bool (.v n)), [.eqs n ps], n + 1)
  | none => none
theorem structEq_ok {neg : Bool} {t : TypeId} {l m : List C} {n : Nat} {s : SV} {fs : List Fact} {n' : Nat} (h : structEq P neg t l m n = some (s, fs, n')) (hf : ∀ f ∈ fs, f.ok fns E.ρ) (hl : oks E l) (hm : oks E m) (x y : Operand) :
    ∃ v, s.Rel E v ∧ ∀ w, (do eqGuard (if neg then .neq else .eql) t x y (.agg (dens E l).toArray) (.agg (dens E m).toArray); binOp (if neg then .neq else .eql) t (.agg (dens E l).toArray) (.agg (dens E m).toArray) : Sem Value).run P w = .ok v w := by
  unfold structEq at h
  split at h
  · cases h
  · rename_i hg
    have hg : P.eqGuardType P.depth t = false := by simpa using hg
    split at h
    · rename_i ps hps
      have run : ∀ w, (Op.equalIn 10000 t (.agg (dens E l).toArray) (.agg (dens E m).toArray)).run P w = .ok (ps.all fun p => decide (p.1.den E.ρ = p.2.den E.ρ)) w := fun w => eqSV_ok (P := P) hps 9980 ⟨rfl, hl⟩ ⟨rfl, hm⟩ w
      generalize hb : (ps.all fun p => decide (p.1.den E.ρ = p.2.den E.ρ)) = b at run
      have run2 : ∀ w, (do eqGuard (if neg then .neq else .eql) t x y (.agg (dens E l).toArray) (.agg (dens E m).toArray); binOp (if neg then .neq else .eql) t (.agg (dens E l).toArray) (.agg (dens E m).toArray) : Sem Value).run P w = .ok (.bool (if neg then !b else b)) w := fun w => by
        cases neg <;> simp [run_eqGuard_agg (hm := hg), binOp, Op.equal, Op.maxDepth, run]
      cases neg with
      | true =>
        simp only [if_true] at h
        cases h
        have f1 := hf (.eqs n ps) (by simp)
        have f2 := hf (.not (n + 1) (.v n)) (by simp)
        simp only [Fact.ok] at f1 f2
        rw [hb] at f1
        refine ⟨_, ⟨rfl, trivial⟩, fun w => ?_⟩
        rw [run2 w]
        exact congrArg (fun b => Result.ok (Value.bool b) w) (by rw [if_pos rfl, ← f1]; exact f2.symm)
      | false =>
        simp only [Bool.false_eq_true, if_false] at h
        cases h
        have f1 := hf (.eqs n ps) (by simp)
        simp only [Fact.ok] at f1
        rw [hb] at f1
        refine ⟨_, ⟨rfl, trivial⟩, fun w => ?_⟩
        rw [run2 w]
        exact congrArg (fun b => Result.ok (Value.bool b) w) (by rw [if_neg (by simp), ← f1]; rfl)
    · cases h
/-- How long a string is, bytes are. -/
def lenP (P : Program) (t : TypeId) (x : SV) (n : Nat) : Option (SV × List Fact × Nat) :=
  match P.underlying t, x with
  | some .string, .c (.str l) => if inB .i64 l.length then some (.c (.int .i64 (.l l.length)), [], n) else none
  | some .string, .c (.strv r) => some (.c (.int .i64 (.v n)), [.prim n 0 [r]], n + 1)
  | some (.slice _), .c (.opq _ r) => some (.c (.int .i64 (.v n)), [.prim n 0 [r]], n + 1)
  | _, _ => none
theorem len_in {z : Int} (h : Str z) : InR .i64 ((decZ z).length : Int) := by
  have := h.len
  unfold maxLen at this
  exact ⟨by simp only [lo]; omega, by simp only [hi]; omega⟩
theorem opq_rel {b : Nat} {r : Ref} {v : Value} (h : (SV.c (.opq b r)).Rel E v) : E.val b = some (v, decZ (r.den E.ρ)) ∧ Str (r.den E.ρ) ∧ ∃ a c, v = .slice a (decZ (r.den E.ρ)).length c := by
  obtain ⟨h1, h2, u, hu, h3⟩ := h
  rw [C.den, hu] at h1
  subst h1
  exact ⟨hu, h2, h3⟩
theorem len_str {t ty : TypeId} (hu : P.underlying t = some .string) (s : ByteArray) (w : World) : (Builtin.len_ #[t] ty #[.string s]).run P w = .ok (goInt s.size) w := by
  simp [Builtin.len_, run_underlying hu]
theorem lenP_ok {t : TypeId} {x s : SV} {n n' : Nat} {fs : List Fact} (h : lenP P t x n = some (s, fs, n')) (hf : ∀ f ∈ fs, f.ok fns E.ρ) {u : Value} (hx : x.Rel E u) (ty : TypeId) : ∃ r, s.Rel E r ∧ ∀ w, (Builtin.len_ #[t] ty #[u]).run P w = .ok r w := by
  unfold lenP at h
  split at h
  · rename_i l hu
    split at h
    · rename_i hin
      cases h
      refine ⟨_, ⟨rfl, inB_ok hin⟩, fun w => ?_⟩
      have e1 : u = .string ⟨l.toArray⟩ := hx.1
      rw [e1, len_str hu]; rfl
    · cases h
  · rename_i r hu
    cases h
    have hn := hf _ (List.mem_singleton.2 rfl)
    have hn : E.ρ n = ((decZ (r.den E.ρ)).length : Int) := hn
    refine ⟨_, ⟨rfl, by show InR _ (E.ρ n); rw [hn]; exact len_in hx.2⟩, fun w => ?_⟩
    have e1 : u = .string ⟨(decZ (r.den E.ρ)).toArray⟩ := hx.1
    rw [e1, len_str hu]
    show _ = Result.ok (Value.int .i64 (E.ρ n)) w
    rw [hn]; rfl
  · rename_i e b r hu
    cases h
    have hn := hf _ (List.mem_singleton.2 rfl)
    have hn : E.ρ n = ((decZ (r.den E.ρ)).length : Int) := hn
    obtain ⟨_, hs, a, c, rfl⟩ := opq_rel hx
    refine ⟨_, ⟨rfl, by show InR _ (E.ρ n); rw [hn]; exact len_in hs⟩, fun w => ?_⟩
    simp [Builtin.len_, run_underlying hu, goInt, C.den, Ref.den, hn]
  · cases h
/-- A byte of a string. -/
def intRef : SV → Option Ref
  | .c (.int _ r) => some r
  | _ => none
def idxStr (P : Program) (t : TypeId) (x i : SV) (n : Nat) : Option (SV × List Fact × Nat) :=
  match P.underlying t, x, intRef i with
  | some .string, .c (.strv r), some j => some (.c (.int .u8 (.v n)), [.must 0 [r, j], .prim n 1 [r, j]], n + 1)
  | _, _, _ => none
theorem idxStr_ok {t : TypeId} {x i s : SV} {n n' : Nat} {fs : List Fact} (h : idxStr P t x i n = some (s, fs, n')) (hf : ∀ f ∈ fs, f.ok fns E.ρ) {u v : Value} (hx : x.Rel E u) (hi : i.Rel E v) : ∃ r, s.Rel E r ∧ ∀ w, (Instr.index t u v).run P w = .ok r w := by
  unfold idxStr at h
  split at h
  · rename_i r j hu hj
    cases h
    have h1 : 0 ≤ j.den E.ρ ∧ j.den E.ρ < ((decZ (r.den E.ρ)).length : Int) := hf (.must 0 [r, j]) (by simp)
    have h2 : E.ρ n = (((decZ (r.den E.ρ)).getD (j.den E.ρ).toNat 0).toNat : Int) := hf (.prim n 1 [r, j]) (by simp)
    unfold intRef at hj
    split at hj
    · rename_i k j'
      cases hj
      have hlt : (j.den E.ρ).toNat < (decZ (r.den E.ρ)).length := by omega
      have hb := ((decZ (r.den E.ρ)).getD (j.den E.ρ).toNat 0).toNat_lt
      refine ⟨_, ⟨rfl, by show InR .u8 (E.ρ n); rw [h2]; exact ⟨by show (0 : Int) ≤ _; omega, by show _ ≤ (255 : Int); omega⟩⟩, fun w => ?_⟩
      have e1 : u = .string ⟨(decZ (r.den E.ρ)).toArray⟩ := hx.1
      have e2 : v = .int k (j.den E.ρ) := hi.1
      show _ = Result.ok (Value.int .u8 (E.ρ n)) w
      rw [h2, e1, e2]
      clear e1 e2 hx hi hf h2
      generalize r.den E.ρ = z at *
      generalize j.den E.ρ = y at *
      have hg : (⟨(decZ z).toArray⟩ : ByteArray)[y.toNat]? = some ((decZ z).getD y.toNat 0) := by
        have hz : y.toNat < (⟨(decZ z).toArray⟩ : ByteArray).size := by simpa [ByteArray.size] using hlt
        rw [getElem?_pos (⟨(decZ z).toArray⟩ : ByteArray) y.toNat hz]
        have : (⟨(decZ z).toArray⟩ : ByteArray)[y.toNat] = (decZ z)[y.toNat] := rfl
        rw [this, List.getD_eq_getElem?_getD, List.getElem?_eq_getElem hlt]; rfl
      simp only [Instr.index, asIntOf, Sem.run_bind, Sem.run_pure, run_underlying hu, Result.andThen_ok, h1.1, if_true, hg]
    · cases hj
  · cases h
/-- string(b), as an equation. -/
theorem sl_str {w : World} {v : Value} {l : List UInt8} {n : Nat} (hv : Sl w 1 v n (bvs l)) (src dst e : TypeId) (hd : P.underlying dst = some .string) (hs : P.underlying src = some (.slice e)) (he : P.underlying e = some (.int .u8)) :
    (convert src dst v).run P w = .ok (.string ⟨l.toArray⟩) w := by
  obtain ⟨hl, ad, cap, rfl, hn, hm, h0, h1⟩ := hv
  have hln : l.length = n := by simpa [bvs] using hl
  subst hln
  rcases h1 with hz | ⟨g, of, rfl, hg, hc⟩
  · obtain rfl : l = [] := List.eq_nil_of_length_eq_zero hz
    rw [run_convert_bytes_string w src dst e ad _ cap hs he hd]
    cases ad <;> simp [Conv.bytesToString] <;> rfl
  · refine run_convert_bytes_back w src dst e ⟨g, of, none⟩ cap l hs he hd fun j hj => ?_
    rw [Addr.add_lit]
    exact hc j _ (bvs_get l j hj)
end
end Go.Sx
