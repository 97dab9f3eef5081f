/- Quiet regions reckoned as closed data: slots hold names of values; what the steps that read or call answer stands in a table. No condition. -/
import Derived.Test.YtbhflfdlkiihgaaQt
namespace Go.Bx
open Go Go.RowKit

/-- What a slot holds: a value by its place in a list, or a literal. -/
inductive SV where
  | var (n : Nat)
  | bool (b : Bool)
  | int (k : IntKind) (n : Int)
  | undef
  | str (l : List UInt8)
  | nil
  | nilp
def SV.eqb : SV → SV → Bool
  | .var a, .var b => a == b
  | .bool a, .bool b => a == b
  | .int k a, .int k' b => decide (k = k') && decide (a = b)
  | .undef, .undef => true
  | .str a, .str b => a == b
  | .nil, .nil => true
  | .nilp, .nilp => true
  | _, _ => false
theorem SV.eqb_eq {a b : SV} (h : SV.eqb a b = true) : a = b := by
  cases a <;> cases b <;> simp_all [SV.eqb]
def SV.den (r : List Value) : SV → Value
  | .var n => r.getD n Go.undef
  | .bool b => .bool b
  | .int k n => .int k n
  | .undef => Go.undef
  | .str l => .string ⟨l.toArray⟩
  | .nil => .slice none 0 0
  | .nilp => .pointer none
def svOf (fr : List SV) : Operand → Option SV
  | .tmp t => some (fr.getD t .undef)
  | .const (.bool b) => some (.bool b)
  | .const (.int k n) => some (.int k n)
  | _ => none
def binN : BinOp → Nat
  | .eql => 0 | .neq => 1 | .lss => 2 | .leq => 3 | .gtr => 4 | .geq => 5 | .add => 6 | .sub => 7 | .mul => 8 | .quo => 9 | .rem => 10 | _ => 99
def SOp : Type := List Nat × List SV
def svEqb : List SV → List SV → Bool
  | [], [] => true
  | a :: l, b :: m => SV.eqb a b && svEqb l m
  | _, _ => false
theorem svEqb_eq : ∀ {l m : List SV}, svEqb l m = true → l = m
  | [], [], _ => rfl
  | a :: l, b :: m, h => by
    simp only [svEqb, Bool.and_eq_true] at h
    rw [SV.eqb_eq h.1, svEqb_eq h.2]
  | [], _ :: _, h => by simp [svEqb] at h
  | _ :: _, [], h => by simp [svEqb] at h
def sopEqb (a b : SOp) : Bool := a.1 == b.1 && svEqb a.2 b.2
theorem sopEqb_eq {a b : SOp} (h : sopEqb a b = true) : a = b := by
  obtain ⟨a1, a2⟩ := a; obtain ⟨b1, b2⟩ := b
  simp only [sopEqb, Bool.and_eq_true, beq_iff_eq] at h
  rw [h.1, svEqb_eq h.2]
def svsOf (ev : Operand → Option SV) : List Operand → Option (List SV)
  | [] => some []
  | x :: l => match ev x, svsOf ev l with
    | some u, some us => some (u :: us)
    | _, _ => none
def mk1 (tag : List Nat) : Option SV → Option SOp
  | some u => some (tag, [u])
  | none => none
def mk2 (tag : List Nat) : Option SV → Option SV → Option SOp
  | some u, some v => some (tag, [u, v])
  | _, _ => none
def sopOf (ev : Operand → Option SV) : Op → Option SOp
  | .load t x => mk1 [0, t] (ev x)
  | .call { callee := .value (.func f), args, .. } => match svsOf ev args.toList with
    | some us => some ([1, f], us)
    | none => none
  | .binOp op t x y _ => mk2 [3, binN op, t] (ev x) (ev y)
  | .fieldAddr t x i => mk1 [4, t, i] (ev x)
  | .indexAddr t x y => mk2 [5, t] (ev x) (ev y)
  | .index t x y => mk2 [6, t] (ev x) (ev y)
  | .convert s d x => mk1 [7, s, d] (ev x)
  | _ => none
def stepS (fr : List SV) (tbl : List (SOp × SV)) : Op → Option SV
  | .move x => svOf fr x
  | .assign x => svOf fr x
  | .pick c x y => match svOf fr c with
    | some (.bool b) => if b then svOf fr x else svOf fr y
    | _ => none
  | .unOp .not _ x => match svOf fr x with
    | some (.bool b) => some (.bool !b)
    | _ => none
  | op => match sopOf (svOf fr) op with
    | some s => match tbl.find? fun e => sopEqb e.1 s with
      | some e => some e.2
      | none => none
    | none => none
def wantS (ops : List Oper) (fr : List SV) (o : Oper) : Option Bool :=
  match o.guard with
  | none => some true
  | some (j, want) => match ops[j]? with
    | some oj => match oj.dst with
      | some d => match fr[d]? with
        | some (.bool b) => some (b == want)
        | _ => none
      | none => none
    | none => none
def putS (fr : List SV) (d : Option Tmp) (u : SV) : List SV :=
  match d with
  | some d => fr.set d u
  | none => fr
def runS (ops : List Oper) (tbl : List (SOp × SV)) : List Oper → List SV → Option (List SV)
  | [], fr => some fr
  | o :: rest, fr => match wantS ops fr o with
    | some true => match stepS fr tbl o.op with
      | some u => runS ops tbl rest (putS fr o.dst u)
      | none => none
    | some false => runS ops tbl rest (putS fr o.dst .undef)
    | none => none

/-- What a step answers, wherever W0's memory is as it was. -/
def Fact (P : Program) (W0 : World) (r : List Value) (s : SOp) (v : SV) : Prop :=
  ∀ (ev : Operand → Option SV) (a : Act) (o : Oper), (∀ x u, ev x = some u → a.eval x = u.den r) → sopOf ev o.op = some s →
    ∀ x : ExtW W0, o.quietAt P a (fun w' => ∃ x : ExtW W0, w' = x.w) x.w (v.den r)

section
variable {P : Program} {W0 : World} {r : List Value}
theorem eval_den {fr : List SV} {a : Act} (ha : a.tmps = (fr.map (SV.den r)).toArray) {x : Operand} {u : SV} (h : svOf fr x = some u) : a.eval x = u.den r := by
  unfold svOf at h
  split at h
  · rename_i t
    cases h
    simp only [Act.eval, ha, Array.getD_eq_getD_getElem?, List.getElem?_toArray, List.getElem?_map, List.getD_eq_getElem?_getD]
    cases fr[t]? <;> rfl
  · cases h; rfl
  · cases h; rfl
  · cases h
theorem put_den {fr : List SV} {a : Act} (ha : a.tmps = (fr.map (SV.den r)).toArray) (d : Option Tmp) (u : SV) : (a.put d (u.den r)).tmps = ((putS fr d u).map (SV.den r)).toArray := by
  cases d with
  | none => exact ha
  | some d => simp [Act.put, putS, ha, List.map_set]
theorem put_defers (a : Act) (d : Option Tmp) (u : Value) : (a.put d u).defers = a.defers := by cases d <;> rfl
theorem want_den {ops : List Oper} {fr : List SV} {a : Act} (ha : a.tmps = (fr.map (SV.den r)).toArray) {o : Oper} {b : Bool} (h : wantS ops fr o = some b) : Region.wanted o (yielded ops.toArray a.tmps) = b := by
  unfold wantS at h
  unfold Region.wanted
  split at h
  · rename_i hg; cases h; simp [hg]
  · rename_i j want hg
    simp only [hg]
    split at h
    · rename_i oj hj
      split at h
      · rename_i d hd
        split at h
        · rename_i b' hb
          cases h
          have : yielded ops.toArray a.tmps j = some b' := by
            simp [yielded, hj, hd, ha, hb, SV.den]
          rw [this]
          cases b' <;> cases want <;> rfl
        · cases h
      · cases h
    · cases h
theorem quietAt_pure {o : Oper} {a : Act} {C : World → Prop} {w : World} {v : Value} (h : (execOp a.eval o).run P w = .ok (.value v) w) : o.quietAt P a C w v := by
  unfold Oper.quietAt; rw [h]; exact ⟨rfl, rfl⟩
theorem step_den {tbl : List (SOp × SV)} (ht : ∀ e ∈ tbl, Fact P W0 r e.1 e.2) {fr : List SV} {a : Act} (ha : a.tmps = (fr.map (SV.den r)).toArray) {o : Oper} {u : SV} (h : stepS fr tbl o.op = some u) (x : ExtW W0) :
    o.quietAt P a (fun w' => ∃ x : ExtW W0, w' = x.w) x.w (u.den r) := by
  unfold stepS at h
  split at h
  · rename_i y hop
    exact quietAt_pure (by rw [BigFrame.run_move y hop, eval_den ha h])
  · rename_i y hop
    exact quietAt_pure (by rw [BigFrame.run_assign y hop, eval_den ha h])
  · rename_i c y z hop
    split at h
    · rename_i b hc
      have e : a.eval c = .bool b := eval_den ha hc
      refine quietAt_pure ?_
      cases b
      · simp only [Bool.false_eq_true, if_false] at h
        simp [execOp, hop, e, asBool, eval_den ha h]
      · simp only [if_true] at h
        simp [execOp, hop, e, asBool, eval_den ha h]
    · cases h
  · rename_i t y hop
    split at h
    · rename_i b hc
      cases h
      have e := eval_den ha hc
      exact quietAt_pure (by simp [execOp, hop, e, SV.den, Op.unary])
    · cases h
  · split at h
    · rename_i s hs
      split at h
      · rename_i e he
        cases h
        have h1 := List.find?_some he
        have h2 := List.mem_of_find?_eq_some he
        have h3 := sopEqb_eq h1
        exact ht e h2 (svOf fr) a o (fun x u => eval_den ha) (by rw [h3]; exact hs) x
      · cases h
    · cases h
theorem run_den {ops : List Oper} {tbl : List (SOp × SV)} (ht : ∀ e ∈ tbl, Fact P W0 r e.1 e.2) {Q : Act → Prop} : ∀ (l : List Oper) (fr : List SV) (a : Act) (res : List SV), a.tmps = (fr.map (SV.den r)).toArray → runS ops tbl l fr = some res →
    (∀ a', a'.tmps = (res.map (SV.den r)).toArray → a'.defers = a.defers → Q a') → wpQuiet P ops.toArray (fun w' => ∃ x : ExtW W0, w' = x.w) Q l a
  | [], fr, a, res, ha, h, hQ => by
    simp only [runS, Option.some.injEq] at h
    subst h
    exact wpQuiet_nil (hQ a ha rfl)
  | o :: rest, fr, a, res, ha, h, hQ => by
    simp only [runS] at h
    split at h
    · rename_i hw
      split at h
      · rename_i u hu
        refine BigFrame.wpQuiet_want (want_den ha hw) fun K hK => ⟨u.den r, ?_, hK _ ?_⟩
        · rintro w ⟨x, rfl⟩
          exact step_den ht ha hu x
        · exact run_den ht rest _ _ res (put_den ha _ _) h fun a' h1 h2 => hQ a' h1 (h2.trans (put_defers _ _ _))
      · cases h
    · rename_i hw
      refine BigFrame.wpQuiet_skip (want_den ha hw) ?_
      exact run_den ht rest _ _ res (put_den ha o.dst .undef) h fun a' h1 h2 => hQ a' h1 (h2.trans (put_defers _ _ _))
    · cases h
/-- **A quiet region, reckoned.** The slots' values are named by their places; 'more' are names for what the steps answer. -/
theorem wp_region_sym {id : Nat} {Q : Exit → Act → World → Prop} {slots : List Value} {defers : List Deferred} {w : World} {l : List Oper} (more : List Value) (tbl : List (SOp × SV)) (hm : P.follows .mixedOrders = true) (hB : Region.lexB .any l.toArray = true)
    (ht : ∀ e ∈ tbl, Fact P w (slots ++ more) e.1 e.2) (n : Nat) (hn : slots.length = n) (s : Nat) (u : SV)
    (hr : ((runS l tbl l ((List.range n).map SV.var)).map fun res => SV.eqb (res.getD s .undef) u) = some true)
    (h : ∀ (x : ExtW w) (t : Array Value), t.getD s Go.undef = u.den (slots ++ more) → Q .normal ⟨t, defers⟩ x.w) : (Code.region id l.toArray true).wp P Q ⟨slots.toArray, defers⟩ w := by
  refine wp_region_q hm hB ?_
  obtain ⟨res, hres, hu⟩ := Option.map_eq_some_iff.1 hr
  refine run_den ht l _ _ res ?_ hres ?_
  · refine congrArg List.toArray (List.ext_getElem (by rw [List.length_map, List.length_map, List.length_range, hn]) fun i h1 h2 => ?_)
    simp [SV.den, List.getD_eq_getElem?_getD, List.getElem?_append_left h1, h1]
  · intro a' h1 h2 x
    obtain ⟨t, d⟩ := a'
    simp only at h1 h2
    subst h2
    refine h x t ?_
    rw [h1, ← SV.eqb_eq hu]
    simp only [Array.getD_eq_getD_getElem?, List.getElem?_toArray, List.getElem?_map, List.getD_eq_getElem?_getD]
    cases res[s]? <;> rfl
theorem mk1_some {tag tag' : List Nat} {x : Option SV} {us : List SV} (h : mk1 tag x = some (tag', us)) : tag = tag' ∧ ∃ u, x = some u ∧ us = [u] := by
  cases x with
  | none => cases h
  | some u => cases h; exact ⟨rfl, u, rfl, rfl⟩
theorem mk2_some {tag tag' : List Nat} {x y : Option SV} {us : List SV} (h : mk2 tag x y = some (tag', us)) : tag = tag' ∧ ∃ u v, x = some u ∧ y = some v ∧ us = [u, v] := by
  cases x with
  | none => cases h
  | some u =>
    cases y with
    | none => cases h
    | some v => cases h; exact ⟨rfl, u, v, rfl, rfl, rfl⟩
theorem svs_eval {ev : Operand → Option SV} {a : Act} (hev : ∀ x u, ev x = some u → a.eval x = u.den r) : ∀ {l : List Operand} {us : List SV}, svsOf ev l = some us → l.map a.eval = us.map (SV.den r)
  | [], us, h => by cases h; rfl
  | x :: l, us, h => by
    unfold svsOf at h
    split at h
    · rename_i u vs h1 h2
      cases h
      simp only [List.map_cons, hev _ _ h1, svs_eval hev h2]
    · cases h
theorem Fact.load {t : TypeId} {p v : SV} (hl : LoadQ P t W0 (p.den r) (v.den r)) : Fact P W0 r ([0, t], [p]) v := by
  intro ev a o hev hs x
  unfold sopOf at hs
  split at hs
  · rename_i t' y hop
    obtain ⟨e, u, hu, he⟩ := mk1_some hs
    simp only [List.cons.injEq, and_true, true_and] at e he
    subst e he
    refine quietAt_pure ?_
    have := hl.go x a y (hev _ _ hu)
    simpa only [execOp, hop] using this
  · split at hs <;> cases hs
  all_goals first
    | exact absurd (mk1_some hs).1 (by simp)
    | exact absurd (mk2_some hs).1 (by simp)
    | cases hs
theorem Fact.call {f : FuncId} {args : List SV} {v : SV} (hc : CallQ P f (args.map (SV.den r)) W0 (v.den r)) : Fact P W0 r ([1, f], args) v := by
  intro ev a o hev hs x
  unfold sopOf at hs
  split at hs
  · obtain ⟨e, _⟩ := mk1_some hs; cases e
  · rename_i f' args' ats hop
    split at hs
    · rename_i us hus
      cases hs
      have hv := svs_eval hev hus
      obtain ⟨fn, c, hf, hname, hb⟩ := hc.fn
      have h1 : fn.name ≠ "runtime.NumGoroutine" := by simpa using hname
      have henter : ∀ (args : Array Value) (w : World), (callFunc f args).run P w = .ok (.enter f args) w := fun args w => by simp [callFunc, hf, h1, hb, mark]
      have hev' : a.eval (.func f) = .func (.func f) #[] #[] := rfl
      have hm : args'.map a.eval = (args.map (SV.den r)).toArray := by rw [← hv]; exact Array.toList_inj.1 (by simp)
      unfold Oper.quietAt
      simp [execOp, hop, resolve, hev', hm, Deferred.ofValue, invoke, henter, Oper.quietUpon]
      simpa using hc.go x
    · cases hs
  all_goals first
    | exact absurd (mk1_some hs).1 (by simp)
    | exact absurd (mk2_some hs).1 (by simp)
    | cases hs
/-- A step on two values. -/
structure BinQ (P : Program) (op : BinOp) (t : TypeId) (u u' v : Value) : Prop where
  go : ∀ (w : World) (x y : Operand), (do eqGuard op t x y u u'; binOp op t u u' : Sem Value).run P w = .ok v w
theorem Fact.bin {op : BinOp} {t : TypeId} {x y v : SV} (hop : ∀ op', binN op' = binN op → op' = op) (h : BinQ P op t (x.den r) (y.den r) (v.den r)) : Fact P W0 r ([3, binN op, t], [x, y]) v := by
  intro ev a o hev hs z
  unfold sopOf at hs
  split at hs
  · exact absurd (mk1_some hs).1 (by simp)
  · split at hs <;> cases hs
  · rename_i op' t' y1 y2 ty ho
    obtain ⟨e, u, v, hu, hv, he⟩ := mk2_some hs
    simp only [List.cons.injEq, and_true, true_and] at e he
    obtain ⟨e1, rfl⟩ := e
    obtain ⟨rfl, rfl⟩ := he
    obtain rfl := hop _ e1
    refine quietAt_pure ?_
    have := h.go z.w y1 y2
    simp only [execOp, ho, hev _ _ hu, hev _ _ hv]
    rw [Sem.run_bind, this]
    rfl
  all_goals first
    | exact absurd (mk1_some hs).1 (by simp)
    | exact absurd (mk2_some hs).1 (by simp)
    | cases hs
theorem eqlN : ∀ op', binN op' = binN .eql → op' = .eql := by intro op' h; cases op' <;> simp_all [binN]
theorem leqN : ∀ op', binN op' = binN .leq → op' = .leq := by intro op' h; cases op' <;> simp_all [binN]
theorem addN : ∀ op', binN op' = binN .add → op' = .add := by intro op' h; cases op' <;> simp_all [binN]
theorem BinQ.agg {t : TypeId} {c d : Array Value} {b : Bool} (hm : P.eqGuardType P.depth t = false) (h : ∀ w : World, (Op.equalIn 10000 t (.agg c) (.agg d)).run P w = .ok b w) : BinQ P .eql t (.agg c) (.agg d) (.bool b) :=
  ⟨fun w x y => by simp [run_eqGuard_agg (hm := hm), binOp, Op.equal, Op.maxDepth, h]⟩
theorem BinQ.int {t : TypeId} {k : IntKind} {a b : Int} {e : Bool} (h : (a == b) = e) : BinQ P .eql t (.int k a) (.int k b) (.bool e) :=
  ⟨fun w x y => by subst h; simp [go_sem]⟩
theorem BinQ.leq {t : TypeId} {k : IntKind} {a b : Int} {e : Bool} (h : decide (a ≤ b) = e) : BinQ P .leq t (.int k a) (.int k b) (.bool e) :=
  ⟨fun w x y => by subst h; simp [go_sem]⟩
theorem BinQ.add {t : TypeId} {a b c : Int} (h : IntKind.i64.wrap (a + b) = c) : BinQ P .add t (.int .i64 a) (.int .i64 b) (.int .i64 c) :=
  ⟨fun w x y => by subst h; simp [go_sem]⟩
theorem BinQ.bool {t : TypeId} (ht : P.underlying t = some .bool) {a b : Bool} {e : Bool} (h : (a == b) = e) : BinQ P .eql t (.bool a) (.bool b) (.bool e) :=
  ⟨fun w x y => by subst h; simp [go_sem, ht]⟩
theorem allF_nil : ∀ e ∈ ([] : List (SOp × SV)), Fact P W0 r e.1 e.2 := by simp
theorem allF_cons {s : SOp} {v : SV} {l : List (SOp × SV)} (h : Fact P W0 r s v) (hl : ∀ e ∈ l, Fact P W0 r e.1 e.2) : ∀ e ∈ (s, v) :: l, Fact P W0 r e.1 e.2 := by
  intro e he
  rcases List.mem_cons.1 he with rfl | he
  · exact h
  · exact hl e he
end
end Go.Bx
