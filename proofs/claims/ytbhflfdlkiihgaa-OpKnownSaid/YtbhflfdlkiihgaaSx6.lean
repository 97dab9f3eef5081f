/- One step of a walk, over names. No condition. -/
import Derived.Test.YtbhflfdlkiihgaaSxT
namespace Go.Sx
open Go Go.RowKit Go.Bx

structure St where
  mem : Mem
  n : Nat
  kn : List (Nat × Bool)
  dec : List Bool
def lookB (i : Nat) : List (Nat × Bool) → Option Bool
  | [] => none
  | (j, b) :: l => if Nat.beq i j then some b else lookB i l
def isZ : Int → Bool
  | .ofNat 0 => true
  | _ => false
def truth (kn : List (Nat × Bool)) : Ref → Option Bool
  | .l z => some !isZ z
  | .v i => lookB i kn
def KnOK (ρ : Nat → Int) (kn : List (Nat × Bool)) : Prop := ∀ p ∈ kn, decide (ρ p.1 ≠ 0) = p.2
theorem truth_ok {ρ : Nat → Int} {kn : List (Nat × Bool)} (h : KnOK ρ kn) {r : Ref} {b : Bool} (ht : truth kn r = some b) : decide (r.den ρ ≠ 0) = b := by
  cases r with
  | l z =>
    cases ht
    rw [Ref.den]
    unfold isZ
    split
    · rfl
    · rename_i hz
      simp only [Bool.not_false, decide_eq_true_eq]
      intro e; exact hz e
  | v i =>
    have : ∀ l : List (Nat × Bool), (∀ p ∈ l, p ∈ kn) → lookB i l = some b → decide (ρ i ≠ 0) = b := fun l => by
      induction l with
      | nil => intro _ h; cases h
      | cons p l ih =>
        intro hs hl
        obtain ⟨j, c⟩ := p
        unfold lookB at hl
        split at hl
        · rename_i e
          cases hl
          rw [Nat.eq_of_beq_eq_true e]
          exact h (j, b) (hs _ (by simp))
        · exact ih (fun q hq => hs q (by simp [hq])) hl
    exact this kn (fun _ h => h) ht
abbrev CallH := FuncId → List SV → St → Option (SV × List Fact × St)
def evsX (ev : Ev) : List Operand → Option (List SV)
  | [] => some []
  | x :: l => match ev x, evsX ev l with
    | some u, some us => some (u :: us)
    | _, _ => none
def RelL (E : Env) : List SV → List Value → Prop
  | [], [] => True
  | s :: l, v :: m => s.Rel E v ∧ RelL E l m
  | _, _ => False
theorem evsX_ok {E : Env} {ev : Ev} {a : Act} (hev : ∀ x u, ev x = some u → u.Rel E (a.eval x)) : ∀ {l : List Operand} {us : List SV}, evsX ev l = some us → RelL E us (l.map a.eval)
  | [], us, h => by cases h; trivial
  | x :: l, us, h => by
    unfold evsX at h
    split at h
    · rename_i u us' h1 h2; cases h; exact ⟨hev x u h1, evsX_ok hev h2⟩
    · cases h
def lenX (P : Program) (t : TypeId) (x : SV) : Option SV :=
  match P.underlying t with
  | some (.array n _) => if inB .i64 n then some (.c (.int .i64 (.l n))) else none
  | some (.slice _) => match x with
    | .c (.slc _ _ len _) => if inB .i64 len then some (.c (.int .i64 (.l len))) else none
    | .c .nils => some (.c (.int .i64 (.l 0)))
    | _ => none
  | _ => none
theorem in0 (k : IntKind) : InR k 0 := by cases k <;> exact ⟨by decide, by decide⟩
def ptrNil (op : BinOp) : Option SV :=
  match op with
  | .eql => some (.c (.bool (.l 0)))
  | .neq => some (.c (.bool (.l 1)))
  | _ => none
def one (n : Nat) : Option SV → Option (SV × List Fact × Nat)
  | some s => some (s, [], n)
  | none => none
def allOnes (k : IntKind) : Int := if k.signed then -1 else hi k
theorem inAll (k : IntKind) : InR k (allOnes k) := by cases k <;> exact ⟨by decide, by decide⟩
def isBoolT (P : Program) (t : TypeId) : Bool :=
  match P.underlying t with
  | some .bool => true
  | _ => false
def boolEq (P : Program) (op : BinOp) (t : TypeId) (a b : Ref) (n : Nat) : Option (SV × List Fact × Nat) :=
  match op with
  | .eql => if isBoolT P t then some (.c (.bool (.v n)), [.beq n false a b], n + 1) else none
  | .neq => if isBoolT P t then some (.c (.bool (.v n)), [.beq n true a b], n + 1) else none
  | _ => none
/-- Two known strings held against one another. -/
def strEq (op : BinOp) (a b : List UInt8) (n : Nat) : Option (SV × List Fact × Nat) :=
  match op with
  | .eql => some (.c (.bool (.l (b2i (decide (a = b))))), [], n)
  | .neq => some (.c (.bool (.l (b2i !(decide (a = b))))), [], n)
  | _ => none
def isPtrT (P : Program) (t : TypeId) : Bool :=
  match P.underlying t with
  | some (.pointer e) => Nat.beq e (P.pointee t)
  | _ => false
/-- A pointer held against none. -/
def ptrEqX (P : Program) (op : BinOp) (t : TypeId) (p q : C) (n : Nat) : Option (SV × List Fact × Nat) :=
  match p, q with
  | .ptr _ _, .nilp => if isPtrT P t then one n (ptrNil op) else none
  | _, _ => none
theorem ptrEqX_ok {P : Program} {E : Env} {op : BinOp} {t : TypeId} {p q : C} {n : Nat} {s : SV} {fs : List Fact} {n' : Nat} (h : ptrEqX P op t p q n = some (s, fs, n')) (hp : p.ok E) :
    (∃ a, p.den E = .pointer (some a)) ∧ q.den E = .pointer none ∧ ∃ v, s.Rel E v ∧ ∀ a w, (binOp op t (.pointer (some a)) (.pointer none)).run P w = .ok v w := by
  unfold ptrEqX at h
  split at h
  · rename_i b o
    split at h
    · rename_i ht
      have hu : P.underlying t = some (.pointer (P.pointee t)) := by
        unfold isPtrT at ht
        split at ht
        · rename_i e he; rw [he, Nat.eq_of_beq_eq_true ht]
        · cases ht
      refine ⟨?_, rfl, ?_⟩
      · have hp : (E.blk b).isSome = true := hp
        obtain ⟨g, hg⟩ := Option.isSome_iff_exists.1 hp
        exact ⟨⟨g, o, none⟩, by simp only [C.den, hg]⟩
      · unfold ptrNil at h
        split at h
        · cases h; exact ⟨_, ⟨rfl, trivial⟩, fun a w => by rw [run_eql_pointer_nil w t (some a) hu]; rfl⟩
        · cases h; exact ⟨_, ⟨rfl, trivial⟩, fun a w => by rw [run_neq_pointer_nil w t (some a) hu]; rfl⟩
        · cases h
    · cases h
  · cases h
def pureX (P : Program) (ev : Ev) (n : Nat) (kn : List (Nat × Bool)) : Op → Option (SV × List Fact × Nat)
  | .move x => one n (ev x)
  | .assign x => one n (ev x)
  | .pick c x y => match ev c with
    | some (.c (.bool r)) => match truth kn r with
      | some true => one n (ev x)
      | some false => one n (ev y)
      | none => none
    | _ => none
  | .nilCheck x => match ev x with
    | some (.c (.ptr b o)) => some (.c (.ptr b o), [], n)
    | _ => none
  | .binOp op t x y _ => match ev x, ev y with
    | some (.c (.int k a)), some (.c (.int k' b)) => intBin op k a k' b n
    | some (.c (.bool a)), some (.c (.bool b)) => boolEq P op t a b n
    | some (.c (.str a)), some (.c (.str b)) => strEq op a b n
    | some (.c p), some (.c q) => match strRef p, strRef q with
      | some a, some b => strEqV op a b n
      | _, _ => ptrEqX P op t p q n
    | some (.agg l), some (.agg m) => match op with
      | .eql => match aggEq P false t l m n with
        | some r => some r
        | none => structEq P false t l m n
      | .neq => match aggEq P true t l m n with
        | some r => some r
        | none => structEq P true t l m n
      | _ => none
    | _, _ => none
  | .unOp .not _ x => match ev x with
    | some (.c (.bool r)) => match truth kn r with
      | some b => some (.c (.bool (.l (b2i !b))), [], n)
      | none => some (.c (.bool (.v n)), [.not n r], n + 1)
    | _ => none
  | .unOp .neg _ x => match ev x with
    | some (.c (.int k r)) => intBin .sub k (.l 0) k r n
    | _ => none
  | .unOp .xor _ x => match ev x with
    | some (.c (.int k r)) => intBin .xor k (.l (allOnes k)) k r n
    | _ => none
  | .convert s t x => match P.underlying s, P.underlying t, ev x with
    | some _, some (.int k), some (.c (.int _ (.l z))) => some (.c (.int k (.l (wrapB k z))), [], n)
    | some _, some (.int k), some (.c (.int _ (.v i))) => some (.c (.int k (.v n)), [.conv n k (.v i)], n + 1)
    | _, _, _ => none
  | .fieldAddr t x i => match ev x with
    | some u => one n (fldAddr P t u i)
    | none => none
  | .indexAddr t x i => match ev x, ev i with
    | some u, some v => match litNat v with
      | some _ => one n (idxAddr P t u v)
      | none => match idxVar P t u v with
        | some (s, fs) => some (s, fs, n)
        | none => none
    | _, _ => none
  | .field t x i => match ev x with
    | some u => one n (fldX P t u i)
    | none => none
  | .index t x i => match ev x, ev i with
    | some u, some v => match litNat v with
      | some _ => one n (idxX P t u v)
      | none => match idxSel P t u v n with
        | some (s, fs) => some (s, fs, n + 1)
        | none => idxStr P t u v n
    | _, _ => none
  | .extract x i => match ev x with
    | some u => one n (extX u i)
    | none => none
  | .build t parts => one n (buildX P ev t parts.toList)
  | .sliceToArrayPointer t x => match P.underlying t, ev x with
    | some (.array m _), some (.c (.slc b off len _)) => if Nat.ble m len then some (.c (.ptr b off), [], n) else none
    | _, _ => none
  | .slice t x none none none => match ev x with
    | some u => one n (sliceX P t u none none)
    | none => none
  | .slice t x (some l) none none => match ev x, ev l with
    | some u, some v => one n (sliceX P t u (some v) none)
    | _, _ => none
  | .slice t x none (some h) none => match ev x, ev h with
    | some u, some v => one n (sliceX P t u none (some v))
    | _, _ => none
  | .slice t x (some l) (some h) none => match ev x, ev l, ev h with
    | some u, some v, some z => one n (sliceX P t u (some v) (some z))
    | _, _, _ => none
  | .call { callee := .builtin .len, args, argTypes } => match args.toList, argTypes.toList with
    | [x], [t] => match ev x with
      | some u => match lenX P t u with
        | some s => some (s, [], n)
        | none => lenP P t u n
      | none => none
    | _, _ => none
  | _ => none
theorem one_spec {n n' : Nat} {x : Option SV} {s : SV} {fs : List Fact} (h : one n x = some (s, fs, n')) : x = some s := by
  cases x with
  | none => cases h
  | some y => cases h; rfl
section
variable {P : Program} {fns : Fns} {E : Env}
theorem run_value {o : Oper} {a : Act} {sm : Sem Value} {v : Value} {w w' : World} (h : execOp a.eval o = (do pure (.value (← sm)))) (hr : sm.run P w = .ok v w') : (execOp a.eval o).run P w = .ok (.value v) w' := by
  rw [h, Sem.run_bind, hr]; rfl
theorem isBoolT_ok {t : TypeId} (h : isBoolT P t = true) : P.underlying t = some .bool := by
  unfold isBoolT at h; split at h
  · assumption
  · cases h
theorem run_eqBool (w : World) {t : TypeId} (hu : P.underlying t = some .bool) (a b : Bool) : (Op.equalIn 10000 t (.bool a) (.bool b)).run P w = .ok (a == b) w := by
  show (Op.equalIn (9999 + 1) t (.bool a) (.bool b)).run P w = _
  rw [Op.equalIn, Sem.run_bind, run_underlying hu]; rfl
theorem run_boolOp (w : World) {t : TypeId} (hu : P.underlying t = some .bool) (a b : Bool) : (binOp .eql t (.bool a) (.bool b)).run P w = .ok (.bool (a == b)) w ∧ (binOp .neq t (.bool a) (.bool b)).run P w = .ok (.bool !(a == b)) w := by
  have run := run_eqBool (P := P) w hu a b
  constructor <;> simp [binOp, Op.equal, Op.maxDepth, run]
theorem boolEq_ok {op : BinOp} {t : TypeId} {p q : Ref} {n : Nat} {s : SV} {fs : List Fact} {n' : Nat} (h : boolEq P op t p q n = some (s, fs, n')) (hf : ∀ f ∈ fs, f.ok fns E.ρ) :
    ∃ v, s.Rel E v ∧ ∀ w, (binOp op t (C.den E (.bool p)) (C.den E (.bool q))).run P w = .ok v w := by
  unfold boolEq at h
  split at h
  · split at h
    · rename_i ht
      cases h
      have hn : decide (E.ρ n ≠ 0) = ((decide (p.den E.ρ ≠ 0) == decide (q.den E.ρ ≠ 0)) != false) := hf _ (List.mem_singleton.2 rfl)
      refine ⟨.bool (decide (p.den E.ρ ≠ 0) == decide (q.den E.ρ ≠ 0)), ⟨congrArg Value.bool (by rw [Bool.bne_false] at hn; exact hn.symm), trivial⟩, fun w => (run_boolOp w (isBoolT_ok ht) _ _).1⟩
    · cases h
  · split at h
    · rename_i ht
      cases h
      have hn : decide (E.ρ n ≠ 0) = ((decide (p.den E.ρ ≠ 0) == decide (q.den E.ρ ≠ 0)) != true) := hf _ (List.mem_singleton.2 rfl)
      refine ⟨.bool !(decide (p.den E.ρ ≠ 0) == decide (q.den E.ρ ≠ 0)), ⟨congrArg Value.bool (by rw [Bool.bne_true] at hn; exact hn.symm), trivial⟩, fun w => (run_boolOp w (isBoolT_ok ht) _ _).2⟩
    · cases h
  · cases h
theorem run_strOp (w : World) (t : TypeId) (a b : List UInt8) : (binOp .eql t (.string ⟨a.toArray⟩) (.string ⟨b.toArray⟩)).run P w = .ok (.bool (decide (a = b))) w ∧ (binOp .neq t (.string ⟨a.toArray⟩) (.string ⟨b.toArray⟩)).run P w = .ok (.bool !(decide (a = b))) w := by
  have e : (a == b) = decide (a = b) := by by_cases h : a = b <;> simp [h]
  constructor <;> simp [binOp, Op.stringOp, ByteArray.toList_mk, e]
theorem strEq_ok {op : BinOp} {t : TypeId} {p q : List UInt8} {n : Nat} {s : SV} {fs : List Fact} {n' : Nat} (h : strEq op p q n = some (s, fs, n')) :
    ∃ v, s.Rel E v ∧ ∀ w, (binOp op t (C.den E (.str p)) (C.den E (.str q))).run P w = .ok v w := by
  unfold strEq at h
  split at h
  · cases h
    exact ⟨.bool (decide (p = q)), ⟨congrArg Value.bool (b2i_ne _).symm, trivial⟩, fun w => (run_strOp w _ _ _).1⟩
  · cases h
    exact ⟨.bool !(decide (p = q)), ⟨congrArg Value.bool (b2i_ne _).symm, trivial⟩, fun w => (run_strOp w _ _ _).2⟩
  · cases h
theorem pureX_ok {ev : Ev} {n : Nat} {kn : List (Nat × Bool)} {o : Oper} {s : SV} {fs : List Fact} {n' : Nat} (h : pureX P ev n kn o.op = some (s, fs, n')) (hf : ∀ f ∈ fs, f.ok fns E.ρ) (hkn : KnOK E.ρ kn) {a : Act} (hev : ∀ x u, ev x = some u → u.Rel E (a.eval x)) :
    ∃ v, s.Rel E v ∧ ∀ w, (execOp a.eval o).run P w = .ok (.value v) w := by
  unfold pureX at h
  split at h
  · rename_i x hop
    exact ⟨_, hev _ _ (one_spec h), fun w => by simp [execOp, hop]⟩
  · rename_i x hop
    exact ⟨_, hev _ _ (one_spec h), fun w => by simp [execOp, hop]⟩
  · rename_i c x y hop
    split at h
    · rename_i r hc
      have hcv := (hev _ _ hc).1
      split at h
      · rename_i ht
        have := truth_ok hkn ht
        refine ⟨_, hev _ _ (one_spec h), fun w => ?_⟩
        rw [C.den, this] at hcv
        simp [execOp, hop, hcv, asBool]
      · rename_i ht
        have := truth_ok hkn ht
        refine ⟨_, hev _ _ (one_spec h), fun w => ?_⟩
        rw [C.den, this] at hcv
        simp [execOp, hop, hcv, asBool]
      · cases h
    · cases h
  · rename_i x hop
    split at h
    · rename_i b off hx
      cases h
      obtain ⟨g, hg, hv⟩ := rel_ptr (hev _ _ hx)
      exact ⟨_, ptr_rel off hg, fun w => by simp [execOp, hop, hv]⟩
    · cases h
  · rename_i op t x y yt hop
    split at h
    · rename_i k r k' q hx hy
      obtain ⟨ex, ox⟩ := hev _ _ hx
      have ey := (hev _ _ hy).1
      obtain ⟨v, hv, hr⟩ := intBin_ok (P := P) h ox hf t
      refine ⟨v, hv, fun w => run_value (sm := do eqGuard op t x y (a.eval x) (a.eval y); binOp op t (a.eval x) (a.eval y)) (by simp only [execOp, hop]) ?_⟩
      rw [Sem.run_bind, ex, ey, run_guard _ _ _ _ _ _ (by intro c e; cases e) (by intro e; cases e)]
      exact hr w
    · rename_i p q hx hy
      have ex := (hev _ _ hx).1
      have ey := (hev _ _ hy).1
      obtain ⟨v, hv, hr⟩ := boolEq_ok (P := P) h hf
      refine ⟨v, hv, fun w => run_value (sm := do eqGuard op t x y (a.eval x) (a.eval y); binOp op t (a.eval x) (a.eval y)) (by simp only [execOp, hop]) ?_⟩
      rw [Sem.run_bind, ex, ey, run_guard _ _ _ _ _ _ (by intro c e; cases e) (by intro e; cases e)]
      exact hr w
    · rename_i p q hx hy
      have ex := (hev _ _ hx).1
      have ey := (hev _ _ hy).1
      obtain ⟨v, hv, hr⟩ := strEq_ok (P := P) (t := t) h
      refine ⟨v, hv, fun w => run_value (sm := do eqGuard op t x y (a.eval x) (a.eval y); binOp op t (a.eval x) (a.eval y)) (by simp only [execOp, hop]) ?_⟩
      rw [Sem.run_bind, ex, ey, run_guard _ _ _ _ _ _ (by intro c e; cases e) (by intro e; cases e)]
      exact hr w
    · rename_i p q _ _ _ hx hy
      have ex := (hev _ _ hx).1
      have ey := (hev _ _ hy).1
      split at h
      · rename_i ra rb h1 h2
        obtain ⟨e1, s1⟩ := strRef_ok h1 (hev _ _ hx).2
        obtain ⟨e2, s2⟩ := strRef_ok h2 (hev _ _ hy).2
        rw [e1] at ex
        rw [e2] at ey
        obtain ⟨v, hv, hr⟩ := strEqV_ok (P := P) (t := t) h s1 s2 hf
        refine ⟨v, hv, fun w => run_value (sm := do eqGuard op t x y (a.eval x) (a.eval y); binOp op t (a.eval x) (a.eval y)) (by simp only [execOp, hop]) ?_⟩
        rw [Sem.run_bind, ex, ey, run_guard _ _ _ _ _ _ (by intro c e; cases e) (by intro e; cases e)]
        exact hr w
      · obtain ⟨⟨a0, e1⟩, e2, v, hv, hr⟩ := ptrEqX_ok h (hev _ _ hx).2
        rw [e1] at ex
        rw [e2] at ey
        refine ⟨v, hv, fun w => run_value (sm := do eqGuard op t x y (a.eval x) (a.eval y); binOp op t (a.eval x) (a.eval y)) (by simp only [execOp, hop]) ?_⟩
        rw [Sem.run_bind, ex, ey, run_guard _ _ _ _ _ _ (by intro c e; cases e) (by intro e; cases e)]
        exact hr _ w
    · rename_i l m hx hy
      have ex := (hev _ _ hx).1
      have ey := (hev _ _ hy).1
      split at h
      · have hh : ∃ v, s.Rel E v ∧ ∀ w, (do eqGuard (if false then .neq else .eql) t x y (.agg (dens E l).toArray) (.agg (dens E m).toArray); binOp (if false then .neq else .eql) t (.agg (dens E l).toArray) (.agg (dens E m).toArray) : Sem Value).run P w = .ok v w := by
          split at h
          · rename_i hq; rw [h] at hq; exact aggEq_ok hq hf x y
          · exact structEq_ok h hf (hev _ _ hx).2 (hev _ _ hy).2 x y
        obtain ⟨v, hv, hr⟩ := hh
        refine ⟨v, hv, fun w => run_value (sm := do eqGuard .eql t x y (a.eval x) (a.eval y); binOp .eql t (a.eval x) (a.eval y)) (by simp only [execOp, hop]) ?_⟩
        have := hr w
        simp only [Bool.false_eq_true, if_false] at this
        rw [ex, ey]; exact this
      · have hh : ∃ v, s.Rel E v ∧ ∀ w, (do eqGuard (if true then .neq else .eql) t x y (.agg (dens E l).toArray) (.agg (dens E m).toArray); binOp (if true then .neq else .eql) t (.agg (dens E l).toArray) (.agg (dens E m).toArray) : Sem Value).run P w = .ok v w := by
          split at h
          · rename_i hq; rw [h] at hq; exact aggEq_ok hq hf x y
          · exact structEq_ok h hf (hev _ _ hx).2 (hev _ _ hy).2 x y
        obtain ⟨v, hv, hr⟩ := hh
        refine ⟨v, hv, fun w => run_value (sm := do eqGuard .neq t x y (a.eval x) (a.eval y); binOp .neq t (a.eval x) (a.eval y)) (by simp only [execOp, hop]) ?_⟩
        have := hr w
        simp only [if_true] at this
        rw [ex, ey]; exact this
      · cases h
    · cases h
  · rename_i t x hop
    split at h
    · rename_i r hx
      have ex := (hev _ _ hx).1
      split at h
      · rename_i b ht
        cases h
        have := truth_ok hkn ht
        rw [C.den, this] at ex
        refine ⟨.bool !b, ⟨?_, trivial⟩, fun w => by simp [execOp, hop, ex, Op.unary]⟩
        exact congrArg Value.bool (b2i_ne _).symm
      · cases h
        have hn := hf _ (List.mem_singleton.2 rfl)
        refine ⟨_, ⟨rfl, trivial⟩, fun w => ?_⟩
        simp only [Fact.ok] at hn
        rw [C.den] at ex
        simp only [execOp, hop, ex, Op.unary, Sem.run_bind, Sem.run_pure, Result.andThen_ok]
        exact congrArg (fun b => Result.ok (Next.value (.bool b)) w) hn.symm
    · cases h
  · rename_i t x hop
    split at h
    · rename_i k r hx
      obtain ⟨ex, ox⟩ := hev _ _ hx
      obtain ⟨v, hv, hr⟩ := intBin_ok (P := P) (E := E) h (in0 k) hf 0
      refine ⟨v, hv, fun w => run_value (sm := Op.unary .neg (a.eval x)) (by simp only [execOp, hop]) ?_⟩
      rw [ex]
      have := hr w
      simpa [binOp, C.den, Op.unary, Ref.den] using this
    · cases h
  · rename_i t x hop
    split at h
    · rename_i k r hx
      obtain ⟨ex, ox⟩ := hev _ _ hx
      obtain ⟨v, hv, hr⟩ := intBin_ok (P := P) (E := E) h (inAll k) hf 0
      refine ⟨v, hv, fun w => run_value (sm := Op.unary .xor (a.eval x)) (by simp only [execOp, hop]) ?_⟩
      rw [ex]
      have := hr w
      have e : (if k.signed then (-1 : Int) else k.max) = allOnes k := by cases k <;> rfl
      simp only [binOp, C.den, Op.unary, Ref.den, ne_eq, not_true_eq_false, if_false] at this ⊢
      rw [e]
      exact this
    · cases h
  · rename_i st t x hop
    split at h
    · rename_i k k' z hs ht hx
      cases h
      have ex := (hev _ _ hx).1
      refine ⟨_, ⟨rfl, ?_⟩, fun w => ?_⟩
      · show InR k (wrapB k z)
        rw [wrapB_eq]; exact inR_wrap _ _
      · simp only [execOp, hop, ex, C.den, Ref.den, convert, Sem.run_bind, run_underlying hs, run_underlying ht, Result.andThen_ok, wrapB_eq, Conv.intToInt, Sem.run_pure]
    · rename_i k k' i hs ht hx
      cases h
      have hn := hf _ (List.mem_singleton.2 rfl)
      simp only [Fact.ok, Ref.den] at hn
      have ex := (hev _ _ hx).1
      refine ⟨_, ⟨rfl, ?_⟩, fun w => ?_⟩
      · show InR k (E.ρ n)
        rw [hn]; exact inR_wrap _ _
      · simp only [execOp, hop, ex, C.den, Ref.den, convert, Sem.run_bind, run_underlying hs, run_underlying ht, Result.andThen_ok, Conv.intToInt, Sem.run_pure, hn]
    · cases h
  · rename_i t x i hop
    split at h
    · rename_i u hx
      obtain ⟨r, hr, hrun⟩ := fldAddr_ok (one_spec h) (hev _ _ hx)
      exact ⟨r, hr, fun w => run_value (by simp only [execOp, hop]) (hrun w)⟩
    · cases h
  · rename_i t x i hop
    split at h
    · rename_i u v hx hi
      split at h
      · obtain ⟨r, hr, hrun⟩ := idxAddr_ok (one_spec h) (hev _ _ hx) (hev _ _ hi)
        exact ⟨r, hr, fun w => run_value (by simp only [execOp, hop]) (hrun w)⟩
      · split at h
        · rename_i s' fs' hv
          cases h
          obtain ⟨r, hr, hrun⟩ := idxVar_ok hv hf (hev _ _ hx) (hev _ _ hi)
          exact ⟨r, hr, fun w => run_value (by simp only [execOp, hop]) (hrun w)⟩
        · cases h
    · cases h
  · rename_i t x i hop
    split at h
    · rename_i u hx
      obtain ⟨r, hr, hrun⟩ := fldX_ok (one_spec h) (hev _ _ hx)
      exact ⟨r, hr, fun w => run_value (by simp only [execOp, hop]) (hrun w)⟩
    · cases h
  · rename_i t x i hop
    split at h
    · rename_i u v hx hi
      split at h
      · obtain ⟨r, hr, hrun⟩ := idxX_ok (one_spec h) (hev _ _ hx) (hev _ _ hi)
        exact ⟨r, hr, fun w => run_value (by simp only [execOp, hop]) (hrun w)⟩
      · split at h
        · rename_i s' fs' hv
          cases h
          obtain ⟨r, hr, hrun⟩ := idxSel_ok hv hf (hev _ _ hx) (hev _ _ hi)
          exact ⟨r, hr, fun w => run_value (by simp only [execOp, hop]) (hrun w)⟩
        · obtain ⟨r, hr, hrun⟩ := idxStr_ok h hf (hev _ _ hx) (hev _ _ hi)
          exact ⟨r, hr, fun w => run_value (by simp only [execOp, hop]) (hrun w)⟩
    · cases h
  · rename_i x i hop
    split at h
    · rename_i u hx
      obtain ⟨r, hr, hrun⟩ := extX_ok (P := P) (one_spec h) (hev _ _ hx)
      exact ⟨r, hr, fun w => run_value (by simp only [execOp, hop]) (hrun w)⟩
    · cases h
  · rename_i t parts hop
    obtain ⟨r, hr, hrun⟩ := buildX_ok hev (one_spec h)
    exact ⟨r, hr, fun w => run_value (by simp only [execOp, hop]) (hrun w)⟩
  · rename_i t x hop
    split at h
    · rename_i m e b off len cap hu hx
      split at h
      · rename_i hle
        cases h
        obtain ⟨g, hg, hv⟩ := rel_slc (hev _ _ hx)
        have hle := Nat.le_of_ble_eq_true hle
        have hnl : ¬ len < m := by omega
        exact ⟨_, ptr_rel off hg, fun w => by
          simp only [execOp, hop, hv, Instr.arrayAt, Sem.run_bind, run_underlying hu, Result.andThen_ok, if_neg hnl, Sem.run_pure]⟩
      · cases h
    · cases h
  · rename_i t x hop
    split at h
    · rename_i u hx
      obtain ⟨r, hr, hrun⟩ := sliceX_ok (vl := none) (vh := none) (one_spec h) (hev _ _ hx) trivial trivial
      exact ⟨r, hr, fun w => run_value (by simp only [execOp, hop]; rfl) (hrun w)⟩
    · cases h
  · rename_i t x l hop
    split at h
    · rename_i u v hx hl
      obtain ⟨r, hr, hrun⟩ := sliceX_ok (vl := some (a.eval l)) (vh := none) (one_spec h) (hev _ _ hx) (hev _ _ hl) trivial
      exact ⟨r, hr, fun w => run_value (by simp only [execOp, hop]; rfl) (hrun w)⟩
    · cases h
  · rename_i t x l hop
    split at h
    · rename_i u v hx hl
      obtain ⟨r, hr, hrun⟩ := sliceX_ok (vl := none) (vh := some (a.eval l)) (one_spec h) (hev _ _ hx) trivial (hev _ _ hl)
      exact ⟨r, hr, fun w => run_value (by simp only [execOp, hop]; rfl) (hrun w)⟩
    · cases h
  · rename_i t x l k hop
    split at h
    · rename_i u v z hx hl hk
      obtain ⟨r, hr, hrun⟩ := sliceX_ok (vl := some (a.eval l)) (vh := some (a.eval k)) (one_spec h) (hev _ _ hx) (hev _ _ hl) (hev _ _ hk)
      exact ⟨r, hr, fun w => run_value (by simp only [execOp, hop]; rfl) (hrun w)⟩
    · cases h
  · rename_i args argTypes hop
    split at h
    · rename_i x t hargs hats
      split at h
      · rename_i u hx
        have ea : args = #[x] := Array.toList_inj.1 hargs
        have et : argTypes = #[t] := Array.toList_inj.1 hats
        subst ea et
        have hex : ∀ w, (execOp a.eval o).run P w = ((Builtin.len_ #[t] o.type #[a.eval x]).run P w).andThen fun v w => .ok (.value v) w := fun w => by
          simp [execOp, hop, resolve, invoke, builtin]
        split at h
        rotate_left
        · obtain ⟨r, hr, hrun⟩ := lenP_ok h hf (hev _ _ hx) o.type
          exact ⟨r, hr, fun w => by rw [hex, hrun w]; rfl⟩
        rename_i s' hlx
        cases h
        replace h := hlx
        unfold lenX at h
        split at h
        · rename_i m e hu
          split at h
          · rename_i hin
            cases h
            refine ⟨.int .i64 m, ⟨rfl, inB_ok hin⟩, fun w => ?_⟩
            rw [hex]; simp [Builtin.len_, run_underlying hu, goInt]
          · cases h
        · rename_i e hu
          split at h
          · split at h
            · rename_i hin
              cases h
              obtain ⟨g, hg, hv⟩ := rel_slc (hev _ _ hx)
              refine ⟨_, ⟨rfl, inB_ok hin⟩, fun w => ?_⟩
              rw [hex, hv]; simp [Builtin.len_, run_underlying hu, goInt, C.den, Ref.den]
            · cases h
          · cases h
            have hv := (hev _ _ hx).1
            refine ⟨_, ⟨rfl, in0 .i64⟩, fun w => ?_⟩
            rw [hex, hv]; simp [Builtin.len_, run_underlying hu, goInt, C.den, Ref.den]
          · cases h
        · cases h
      · cases h
    · cases h
  · cases h
end
end Go.Sx
