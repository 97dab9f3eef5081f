/- Regions that draw their order, reckoned over names of values, some of them made by the steps themselves (a slice that a call has laid anew): whatever the order, each step finds what it reads. No condition. -/
import Derived.Test.YtlmegcbiijkmaaaSym
namespace Go.Bx
open Go Go.RowKit

/-- A world in which all that W0 has, but for the blocks of S, is as it was. -/
structure ExtS (S : Nat → Prop) (W0 : World) where
  w : World
  fr : Fr S W0 w
/-- A step, by its kind and what it is of. -/
abbrev sop (tag : List Nat) (args : List SV) : SOp := (tag, args)
/-- A step that makes a value of its own: its number, the value's number, what the step is, what values of that kind it needs. -/
structure Fz where
  i : Nat
  k : Nat
  s : SOp
  deps : List Nat
def wrt (ops : List Oper) (t : Tmp) : Option Nat := ops.findIdx? fun o => o.dst == some t
def aft (o : Oper) (j : Nat) : Bool := o.after.any fun e => Region.binds .any e && e.on == j
def evR (n : Nat) (ops : List Oper) (syms : List SV) (i : Nat) (o : Oper) : Operand → Option SV
  | .tmp t => if n ≤ t then none else match wrt ops t with
    | none => some (.var t)
    | some j => if aft o j then some (syms.getD j .undef) else if j == i then some (.var t) else match ops[j]? with
      | some oj => if aft oj i then some (.var t) else none
      | none => none
  | .const (.bool b) => some (.bool b)
  | .const (.int k n) => some (.int k n)
  | .const (.string s) => some (.str s.data.toList)
  | .const (.slice none 0 0) => some .nil
  | .const (.pointer none) => some .nilp
  | _ => none
def mk3 (tag : List Nat) : Option SV → Option SV → Option SV → Option SOp
  | some u, some v, some z => some (tag, [u, v, z])
  | _, _, _ => none
/-- A builtin's number. -/
def bN : Builtin → Nat
  | .append => 0
  | .copy => 1
  | .min => 2
  | .max => 3
  | .cap => 4
  | _ => 9
/-- More kinds of steps: parts of slices, builtins, what lays memory. -/
def sopOf2 (ev : Operand → Option SV) : Op → Option SOp
  | .slice t x none none none => mk1 [12, t] (ev x)
  | .slice t x (some l) none none => mk2 [13, t] (ev x) (ev l)
  | .slice t x none (some h) none => mk2 [14, t] (ev x) (ev h)
  | .slice t x (some l) (some h) none => mk3 [15, t] (ev x) (ev l) (ev h)
  | .call { callee := .builtin b, args, argTypes } => match svsOf ev args.toList with
    | some us => some (16 :: bN b :: argTypes.toList, us)
    | none => none
  | .makeSlice t l c => mk2 [17, t] (ev l) (ev c)
  | .alloc t => some ([18, t], [])
  | .box t x => mk1 [19, t] (ev x)
  | .field t x i => mk1 [20, t, i] (ev x)
  | .build t parts => match svsOf ev (parts.toList.map (·.2)) with
    | some us => some (21 :: t :: parts.toList.map (·.1), us)
    | none => none
  | .buildSlice t n parts => match svsOf ev (parts.toList.map (·.2)) with
    | some us => some (22 :: t :: n :: parts.toList.map (·.1), us)
    | none => none
  | op => sopOf ev op
def sopR (ev : Operand → Option SV) : Op → Option SOp
  | .call { callee := .builtin .len, args, argTypes } => match svsOf ev args.toList with
    | some us => some (8 :: argTypes.toList, us)
    | none => none
  | .store t x y => mk2 [9, t] (ev x) (ev y)
  | .nilCheck x => mk1 [10] (ev x)
  | .extract x i => mk1 [11, i] (ev x)
  | op => sopOf2 ev op
def stepR (ev : Operand → Option SV) (tbl : List (SOp × SV × List Nat)) : Op → Option (SV × List Nat)
  | .move x => (ev x).map (·, [])
  | .assign x => (ev x).map (·, [])
  | .pick c x y => match ev c with
    | some (.bool b) => (if b then ev x else ev y).map (·, [])
    | _ => none
  | .unOp .not _ x => match ev x with
    | some (.bool b) => some (.bool !b, [])
    | _ => none
  | op => match sopR ev op with
    | some s => match tbl.find? fun e => sopEqb e.1 s with
      | some e => some e.2
      | none => none
    | none => none
def wantR (ops : List Oper) (syms : List SV) (o : Oper) : Option Bool :=
  match o.guard with
  | none => some true
  | some (g, want) => if aft o g then match syms.getD g .undef with
      | .bool b => match ops[g]? with
        | some og => if og.dst.isSome then some (b == want) else none
        | none => none
      | _ => none
    else none
def depR (len : Nat) (N : Nat) (syms : List SV) (o : Oper) (k : Nat) : Bool := (List.range len).any fun j => aft o j && SV.eqb (syms.getD j .undef) (.var (N + k))
def newR (len N : Nat) (syms : List SV) (o : Oper) : SV → Bool
  | .var v => if N ≤ v then depR len N syms o (v - N) else true
  | _ => true
def goodR (ops : List Oper) (tbl : List (SOp × SV × List Nat)) (fr : List Fz) (N n : Nat) (syms : List SV) (i : Nat) (o : Oper) : Bool :=
  (match o.dst with | some d => wrt ops d == some i && decide (d < n) | none => false) && (o.after.all fun e => !Region.binds .any e || decide (e.on < i)) &&
  match wantR ops syms o with
  | some false => SV.eqb (syms.getD i .undef) .undef
  | some true => match fr.find? (fun f => f.i == i) with
    | some f => (match sopR (evR n ops syms i o) o.op with | some s => sopEqb f.s s | none => false) && SV.eqb (syms.getD i .undef) (.var (N + f.k)) && f.deps.all (depR ops.length N syms o)
    | none => match stepR (evR n ops syms i o) tbl o.op with
      | some (u, deps) => SV.eqb (syms.getD i .undef) u && deps.all (depR ops.length N syms o) && newR ops.length N syms o u
      | none => false
  | none => false
def allR (ops : List Oper) (tbl : List (SOp × SV × List Nat)) (fr : List Fz) (N n m : Nat) (syms : List SV) : Bool :=
  (List.range ops.length).all (fun i => match ops[i]? with | some o => goodR ops tbl fr N n syms i o | none => true) && decide ((fr.map (·.k)).Nodup) && fr.all (fun f => decide (f.k < m))
/-- The names, step by step. -/
def symsR (ops : List Oper) (tbl : List (SOp × SV × List Nat)) (fr : List Fz) (N n : Nat) : List Oper → List SV → List SV
  | [], acc => acc
  | o :: rest, acc =>
    let i := acc.length
    let u := match wantR ops acc o with
      | some true => match fr.find? (fun f => f.i == i) with
        | some f => .var (N + f.k)
        | none => match stepR (evR n ops acc i o) tbl o.op with
          | some (u, _) => u
          | none => .undef
      | _ => .undef
    symsR ops tbl fr N n rest (acc ++ [u])
def outR (ops : List Oper) (syms : List SV) (s : Nat) : SV := match wrt ops s with | some i => syms.getD i .undef | none => .var s

section
variable {P : Program} {W0 : World} {base : List Value} {m : Nat} {Φ : Nat → Value → World → Prop}
/-- What a step answers, wherever W0's memory is as it was and the values it needs are there. -/
def FactR (P : Program) (W0 : World) (base : List Value) (m : Nat) (Φ : Nat → Value → World → Prop) (s : SOp) (v : SV) (deps : List Nat) : Prop :=
  ∀ (φ : List Value), φ.length = m → ∀ x : ExtW W0, (∀ k ∈ deps, Φ k (φ.getD k undef) x.w) → ∀ (ev : Operand → Option SV) (a : Act) (o : Oper), (∀ y u, ev y = some u → a.eval y = u.den (base ++ φ)) → sopR ev o.op = some s →
    o.quietAt P a (fun w' => Fr (fun _ => False) x.w w') x.w (v.den (base ++ φ))
/-- What a step that makes a value of its own answers. -/
def FreshR (P : Program) (W0 : World) (base : List Value) (m : Nat) (Φ : Nat → Value → World → Prop) (k : Nat) (s : SOp) (deps : List Nat) : Prop :=
  ∀ (φ : List Value), φ.length = m → ∀ x : ExtW W0, (∀ k ∈ deps, Φ k (φ.getD k undef) x.w) → ∀ (ev : Operand → Option SV) (a : Act) (o : Oper), (∀ y u, ev y = some u → a.eval y = u.den (base ++ φ)) → sopR ev o.op = some s →
    ∀ (K : Act → World → Prop) (Q : Exit → Act → World → Prop), (∀ v w', Fr (fun _ => False) x.w w' → Φ k v w' → K (a.put o.dst v) w') → o.wp P a x.w K Q

structure JR (S : Nat → Prop) (ops : List Oper) (fr : List Fz) (W0 : World) (base : List Value) (m : Nat) (Φ : Nat → Value → World → Prop) (slots : List Value) (defers : List Deferred) (syms : List SV) (listed : Array Bool) (a : Act) (w : World) : Prop where
  ex : ∃ φ : List Value, φ.length = m ∧ a.tmps.size = slots.length ∧ a.defers = defers ∧
    (∀ t, t < slots.length → (∀ i, wrt ops t = some i → listed.getD i true = false) → a.tmps[t]? = slots[t]?) ∧
    (∀ i o d, ops[i]? = some o → listed.getD i false = true → o.dst = some d → a.tmps[d]? = some ((syms.getD i .undef).den (base ++ φ))) ∧
    (∀ i o, ops[i]? = some o → listed.getD i false = true → ∀ e ∈ o.after, Region.binds .any e = true → listed.getD e.on false = true) ∧
    (∀ i k, listed.getD i false = true → syms.getD i .undef = .var (base.length + k) → Φ k (φ.getD k undef) w ∧ ∃ f ∈ fr, f.k = k ∧ listed.getD f.i false = true)
  cls : ∃ x : ExtS S W0, w = x.w
theorem aft_listed {listed : Array Bool} {o : Oper} (h : ∀ e ∈ o.after, Region.binds .any e = true → listed.getD e.on false = true) {j : Nat} (ha : aft o j = true) : listed.getD j false = true := by
  unfold aft at ha
  rw [Array.any_eq_true] at ha
  obtain ⟨k, hk, hb⟩ := ha
  simp only [Bool.and_eq_true, beq_iff_eq] at hb
  rw [← hb.2]
  exact h _ (Array.getElem_mem hk) hb.1
theorem den_base {φ : List Value} {v : Nat} (h : v < base.length) : (SV.var v).den (base ++ φ) = base.getD v undef := by
  simp [SV.den, List.getD_eq_getElem?_getD, List.getElem?_append_left h]
theorem den_new {φ : List Value} (k : Nat) : (SV.var (base.length + k)).den (base ++ φ) = φ.getD k undef := by
  simp [SV.den, List.getD_eq_getElem?_getD, List.getElem?_append_right]
theorem wp_of_quietAt {o : Oper} {a : Act} {C : World → Prop} {w : World} {v : Value} {K : Act → World → Prop} {Q : Exit → Act → World → Prop} (hh : o.quietAt P a C w v) (hw : C w) (h : ∀ w', C w' → K (a.put o.dst v) w') : o.wp P a w K Q := by
  unfold Oper.quietAt at hh
  unfold Oper.wp
  generalize (execOp a.eval o).run P w = r at *
  cases r with
  | ok n w' =>
    cases n <;> simp only [Oper.quietUpon] at hh <;> simp only [Oper.upon]
    case value u =>
      obtain ⟨e1, e2⟩ := hh
      rw [e1, e2]
      exact h _ hw
    case skip =>
      obtain ⟨e1, e2⟩ := hh
      rw [e1, ← e2]
      exact h _ hw
    case enter f args =>
      obtain ⟨e1, hc⟩ := hh
      rw [e1]
      exact hc.mono fun e w'' ⟨he, hw''⟩ => by subst he; exact h _ hw''
  | halt x w' => simp only [Oper.quietUpon] at hh
theorem stepR_den {tbl : List (SOp × SV × List Nat)} (ht : ∀ e ∈ tbl, FactR P W0 base m Φ e.1 e.2.1 e.2.2) {φ : List Value} (hφ : φ.length = m) (x : ExtW W0) {ev : Operand → Option SV} {a : Act} {o : Oper}
    (hev : ∀ y u, ev y = some u → a.eval y = u.den (base ++ φ)) {u : SV} {deps : List Nat} (h : stepR ev tbl o.op = some (u, deps)) (hd : ∀ k ∈ deps, Φ k (φ.getD k undef) x.w) :
    o.quietAt P a (fun w' => Fr (fun _ => False) x.w w') x.w (u.den (base ++ φ)) := by
  unfold stepR at h
  split at h
  · rename_i y hop
    obtain ⟨u', hu, he⟩ := Option.map_eq_some_iff.1 h
    cases he
    exact quietAt_pure (by rw [BigFrame.run_move y hop, hev _ _ hu])
  · rename_i y hop
    obtain ⟨u', hu, he⟩ := Option.map_eq_some_iff.1 h
    cases he
    exact quietAt_pure (by rw [BigFrame.run_assign y hop, hev _ _ hu])
  · rename_i c y z hop
    split at h
    · rename_i b hc
      have e : a.eval c = .bool b := hev _ _ hc
      obtain ⟨u', hu, he⟩ := Option.map_eq_some_iff.1 h
      cases he
      refine quietAt_pure ?_
      cases b
      · simp only [Bool.false_eq_true, if_false] at hu
        simp [execOp, hop, e, asBool, hev _ _ hu]
      · simp only [if_true] at hu
        simp [execOp, hop, e, asBool, hev _ _ hu]
    · cases h
  · rename_i t y hop
    split at h
    · rename_i b hc
      cases h
      have e := hev _ _ hc
      exact quietAt_pure (by simp [execOp, hop, e, SV.den, Op.unary])
    · cases h
  · split at h
    · rename_i s hs
      split at h
      · rename_i e he
        have h1 := List.find?_some he
        have h2 := List.mem_of_find?_eq_some he
        have h3 := sopEqb_eq h1
        obtain ⟨e1, e2, e3⟩ := e
        cases h
        exact ht _ h2 φ hφ x hd ev a o hev (by rw [h3]; exact hs)
      · cases h
    · cases h
theorem unl {listed : Array Bool} {i : Nat} (h : listed.getD i true = false) : listed.getD i false = false := by
  by_cases hi : i < listed.size
  · rw [Array.getD_eq_getD_getElem?, Array.getElem?_eq_getElem hi] at h ⊢; exact h
  · rw [Array.getD_eq_getD_getElem?, Array.getElem?_eq_none (by omega)] at h; cases h
theorem un2 {listed : Array Bool} {i : Nat} (hi : i < listed.size) (h : ¬ listed.getD i false = true) : listed.getD i true = false := by
  rw [Array.getD_eq_getD_getElem?, Array.getElem?_eq_getElem hi] at h ⊢
  simpa using h
section
variable {ops : List Oper} {fr : List Fz} {slots more : List Value} {defers : List Deferred} {syms : List SV}
theorem evR_den {φ : List Value} {listed : Array Bool} {a : Act} (hb : base = slots ++ more)
    (h1 : ∀ t, t < slots.length → (∀ i, wrt ops t = some i → listed.getD i true = false) → a.tmps[t]? = slots[t]?)
    (h2 : ∀ i o d, ops[i]? = some o → listed.getD i false = true → o.dst = some d → a.tmps[d]? = some ((syms.getD i .undef).den (base ++ φ)))
    (clo : ∀ i o, ops[i]? = some o → listed.getD i false = true → ∀ e ∈ o.after, Region.binds .any e = true → listed.getD e.on false = true)
    (hls : listed.size = ops.length) {i : Nat} {o : Oper} (hi : listed.getD i true = false) (haf : ∀ e ∈ o.after, Region.binds .any e = true → listed.getD e.on false = true) {x : Operand} {u : SV}
    (h : evR slots.length ops syms i o x = some u) : a.eval x = u.den (base ++ φ) := by
  have ini : ∀ t, t < slots.length → (∀ j, wrt ops t = some j → listed.getD j true = false) → a.eval (.tmp t) = (SV.var t).den (base ++ φ) := by
    intro t ht hno
    have h3 := h1 t ht hno
    have h4 : t < base.length := by rw [hb, List.length_append]; omega
    rw [den_base h4, hb]
    simp only [Act.eval, Array.getD_eq_getD_getElem?, h3, List.getD_eq_getElem?_getD, List.getElem?_append_left ht]
  unfold evR at h
  split at h
  · rename_i t
    split at h
    · cases h
    rename_i ht
    have ht : t < slots.length := Nat.lt_of_not_le ht
    split at h
    · rename_i hw
      cases h
      exact ini t ht fun j hj => by rw [hw] at hj; cases hj
    · rename_i j hw
      split at h
      · rename_i haft
        cases h
        have hl := aft_listed haf haft
        have hjl : j < ops.length := by
          rw [← hls]
          by_cases hlt : j < listed.size
          · exact hlt
          · rw [Array.getD_eq_getD_getElem?, Array.getElem?_eq_none (by omega)] at hl; cases hl
        have hd : ops[j].dst = some t := by
          have := List.findIdx?_eq_some_iff_getElem.1 hw
          simpa using this.2.1
        have := h2 j ops[j] t (List.getElem?_eq_getElem hjl) hl hd
        simp only [Act.eval, Array.getD_eq_getD_getElem?, this, Option.getD_some]
      · split at h
        · rename_i hji
          cases h
          have hji : j = i := by simpa using hji
          exact ini t ht fun k hk => by rw [hw] at hk; cases hk; rw [hji]; exact hi
        · split at h
          · rename_i oj hoj
            split at h
            · rename_i haft
              cases h
              refine ini t ht fun k hk => ?_
              rw [hw] at hk
              cases hk
              by_cases hl : listed.getD j false = true
              · have := aft_listed (clo j oj hoj hl) haft
                rw [unl hi] at this; cases this
              · exact un2 (by rw [hls]; exact (List.getElem?_eq_some_iff.1 hoj).1) hl
            · cases h
          · cases h
  · cases h; rfl
  · cases h; rfl
  · cases h; rfl
  · cases h; rfl
  · cases h; rfl
  · cases h
theorem set_get {listed : Array Bool} {i j : Nat} : (listed.setIfInBounds i true).getD j false = if j = i ∧ i < listed.size then true else listed.getD j false := by
  simp only [Array.getD_eq_getD_getElem?, Array.getElem?_setIfInBounds]
  by_cases h : i = j
  · subst h
    by_cases h2 : i < listed.size <;> simp [h2]
  · rw [if_neg h, if_neg (by omega)]
theorem set_get' {listed : Array Bool} {i j : Nat} (h : (listed.setIfInBounds i true).getD j true = false) : listed.getD j true = false ∧ (j = i → False) := by
  simp only [Array.getD_eq_getD_getElem?, Array.getElem?_setIfInBounds] at h ⊢
  by_cases e : i = j
  · subst e
    by_cases h2 : i < listed.size <;> simp [h2] at h
  · rw [if_neg e] at h; exact ⟨h, fun e' => e e'.symm⟩
/-- One step more. -/
theorem JR.next {S : Nat → Prop} {listed : Array Bool} {a : Act} {w w' : World} (hls : listed.size = ops.length) (hst : ∀ k v w w', Fr S w w' → Φ k v w → Φ k v w')
    {φ φ' : List Value} (hφ : φ'.length = m) (hsz : a.tmps.size = slots.length) (hdf : a.defers = defers)
    (h1 : ∀ t, t < slots.length → (∀ i, wrt ops t = some i → listed.getD i true = false) → a.tmps[t]? = slots[t]?)
    (h2 : ∀ i o d, ops[i]? = some o → listed.getD i false = true → o.dst = some d → a.tmps[d]? = some ((syms.getD i .undef).den (base ++ φ)))
    (clo : ∀ i o, ops[i]? = some o → listed.getD i false = true → ∀ e ∈ o.after, Region.binds .any e = true → listed.getD e.on false = true)
    (h3 : ∀ i k, listed.getD i false = true → syms.getD i .undef = .var (base.length + k) → Φ k (φ.getD k undef) w ∧ ∃ f ∈ fr, f.k = k ∧ listed.getD f.i false = true)
    (hcl : ∃ x : ExtS S W0, w = x.w) {i : Nat} {o : Oper} (ho : ops[i]? = some o) (hi : listed.getD i true = false) (haf : ∀ e ∈ o.after, Region.binds .any e = true → listed.getD e.on false = true)
    {d : Tmp} (hd : o.dst = some d) (hw : wrt ops d = some i) (hdn : d < slots.length) (hdst : ∀ j oj, ops[j]? = some oj → oj.dst = some d → j = i)
    (hden : ∀ j, listed.getD j false = true → (syms.getD j .undef).den (base ++ φ') = (syms.getD j .undef).den (base ++ φ))
    (hkeep : ∀ j k, listed.getD j false = true → syms.getD j .undef = .var (base.length + k) → φ'.getD k undef = φ.getD k undef)
    (hfr : Fr S w w')
    (hnew : ∀ k, syms.getD i .undef = .var (base.length + k) → Φ k (φ'.getD k undef) w' ∧ ∃ f ∈ fr, f.k = k ∧ (f.i = i ∨ listed.getD f.i false = true)) :
    JR S ops fr W0 base m Φ slots defers syms (listed.setIfInBounds i true) (a.put o.dst ((syms.getD i .undef).den (base ++ φ'))) w' := by
  have hil : i < listed.size := by rw [hls]; exact (List.getElem?_eq_some_iff.1 ho).1
  have up : ∀ j, listed.getD j false = true → (listed.setIfInBounds i true).getD j false = true := fun j hj => by rw [set_get, hj]; split <;> rfl
  have dn : ∀ j, (listed.setIfInBounds i true).getD j false = true → j = i ∨ listed.getD j false = true := fun j hj => by
    rw [set_get] at hj
    split at hj
    · rename_i h; exact .inl h.1
    · exact .inr hj
  have self : (listed.setIfInBounds i true).getD i false = true := by rw [set_get, if_pos ⟨rfl, hil⟩]
  have htm : (a.put o.dst ((syms.getD i .undef).den (base ++ φ'))).tmps = a.tmps.setIfInBounds d ((syms.getD i .undef).den (base ++ φ')) := by rw [hd]; rfl
  refine ⟨⟨φ', hφ, ?_, ?_, ?_, ?_, ?_, ?_⟩, ?_⟩
  · rw [htm, Array.size_setIfInBounds]; exact hsz
  · rw [put_defers]; exact hdf
  · intro t ht hno
    have hne : d ≠ t := by
      rintro rfl
      have := (set_get' (hno i hw)).2 rfl
      exact this
    rw [htm, Array.getElem?_setIfInBounds_ne hne]
    exact h1 t ht fun j hj => (set_get' (hno j hj)).1
  · intro j oj e hj hjl he
    rw [htm]
    rcases dn j hjl with rfl | hjk
    · rw [ho] at hj
      cases hj
      rw [hd] at he
      cases he
      rw [Array.getElem?_setIfInBounds_self_of_lt (show d < a.tmps.size from by rw [hsz]; exact hdn)]
    · have hne : d ≠ e := by
        rintro rfl
        have := hdst j oj hj he
        rw [this, unl hi] at hjk; cases hjk
      rw [Array.getElem?_setIfInBounds_ne hne, h2 j oj e hj hjk he, hden j hjk]
  · intro j oj hj hjl e he hb
    rcases dn j hjl with rfl | hjl
    · rw [ho] at hj
      cases hj
      exact up _ (haf e he hb)
    · exact up _ (clo j oj hj hjl e he hb)
  · intro j k hjl hk
    rcases dn j hjl with rfl | hjl
    · obtain ⟨q1, f, hf, hk', hq⟩ := hnew k hk
      refine ⟨q1, f, hf, hk', ?_⟩
      rcases hq with rfl | hq
      · exact self
      · exact up _ hq
    · obtain ⟨q1, f, hf, hk', hq⟩ := h3 j k hjl hk
      exact ⟨by rw [hkeep j k hjl hk]; exact hst k _ _ _ hfr q1, f, hf, hk', up _ hq⟩
  · obtain ⟨x, rfl⟩ := hcl
    exact ⟨⟨w', x.fr.trans hfr⟩, rfl⟩
/-- What the reckoning says of one step. -/
theorem goodR_spec {tbl : List (SOp × SV × List Nat)} {N n : Nat} {i : Nat} {o : Oper} (h : goodR ops tbl fr N n syms i o = true) :
    (∃ d, o.dst = some d ∧ wrt ops d = some i ∧ d < n) ∧ (∀ e ∈ o.after, Region.binds .any e = true → e.on < i) ∧
    ((wantR ops syms o = some false ∧ syms.getD i .undef = .undef) ∨
     (wantR ops syms o = some true ∧ ((∃ f ∈ fr, f.i = i ∧ sopR (evR n ops syms i o) o.op = some f.s ∧ syms.getD i .undef = .var (N + f.k) ∧ ∀ k ∈ f.deps, depR ops.length N syms o k = true) ∨
      (∃ u deps, fr.find? (fun f => f.i == i) = none ∧ stepR (evR n ops syms i o) tbl o.op = some (u, deps) ∧ syms.getD i .undef = u ∧ (∀ k ∈ deps, depR ops.length N syms o k = true) ∧ newR ops.length N syms o u = true)))) := by
  unfold goodR at h
  simp only [Bool.and_eq_true] at h
  obtain ⟨⟨hd, ha⟩, h⟩ := h
  refine ⟨?_, ?_, ?_⟩
  · split at hd
    · rename_i d hdo
      simp only [Bool.and_eq_true, beq_iff_eq, decide_eq_true_eq] at hd
      exact ⟨d, hdo, hd.1, hd.2⟩
    · cases hd
  · intro e he hb
    rw [Array.all_eq_true] at ha
    obtain ⟨k, hk, rfl⟩ := Array.mem_iff_getElem.1 he
    have := ha k hk
    rw [hb] at this
    simpa using this
  · split at h
    · rename_i hw; exact .inl ⟨hw, SV.eqb_eq h⟩
    · rename_i hw
      refine .inr ⟨hw, ?_⟩
      split at h
      · rename_i f hf
        simp only [Bool.and_eq_true, List.all_eq_true] at h
        obtain ⟨⟨hs, hv⟩, hdp⟩ := h
        split at hs
        · rename_i s hs'
          exact .inl ⟨f, List.mem_of_find?_eq_some hf, by simpa using List.find?_some hf, by rw [hs', sopEqb_eq hs], SV.eqb_eq hv, hdp⟩
        · cases hs
      · rename_i hnone
        split at h
        · rename_i u deps hst
          simp only [Bool.and_eq_true, List.all_eq_true] at h
          exact .inr ⟨u, deps, hnone, hst, SV.eqb_eq h.1.1, h.1.2, h.2⟩
        · cases h
    · cases h
theorem wantR_den {φ : List Value} {listed : Array Bool} {a : Act}
    (h2 : ∀ i o d, ops[i]? = some o → listed.getD i false = true → o.dst = some d → a.tmps[d]? = some ((syms.getD i .undef).den (base ++ φ)))
    {o : Oper} (haf : ∀ e ∈ o.after, Region.binds .any e = true → listed.getD e.on false = true) {b : Bool} (h : wantR ops syms o = some b) : Region.wanted o (yielded ops.toArray a.tmps) = b := by
  unfold wantR at h
  unfold Region.wanted
  split at h
  · rename_i hg; cases h; simp [hg]
  · rename_i g want hg
    simp only [hg]
    split at h
    · rename_i haft
      split at h
      · rename_i b' hb
        split at h
        · rename_i og hog
          split at h
          · rename_i hsome
            cases h
            obtain ⟨d, hd⟩ := Option.isSome_iff_exists.1 hsome
            have hv := h2 g og d hog (aft_listed haf haft) hd
            rw [hb] at hv
            have : yielded ops.toArray a.tmps g = some b' := by
              simp [yielded, hog, hd, hv, SV.den]
            rw [this]
            cases b' <;> cases want <;> rfl
          · cases h
        · cases h
      · cases h
    · cases h
theorem depR_spec {N : Nat} {o : Oper} {k : Nat} (h : depR ops.length N syms o k = true) : ∃ j, aft o j = true ∧ syms.getD j .undef = .var (N + k) := by
  unfold depR at h
  rw [List.any_eq_true] at h
  obtain ⟨j, _, hj⟩ := h
  simp only [Bool.and_eq_true] at hj
  exact ⟨j, hj.1, SV.eqb_eq hj.2⟩
theorem nodup_k {l : List Fz} (h : (l.map (·.k)).Nodup) {f g : Fz} (hf : f ∈ l) (hg : g ∈ l) (e : f.k = g.k) : f = g := by
  induction l with
  | nil => cases hf
  | cons a l ih =>
    rw [List.map_cons, List.nodup_cons] at h
    rcases List.mem_cons.1 hf with h1 | h1
    · rcases List.mem_cons.1 hg with h2 | h2
      · rw [h1, h2]
      · exact absurd (List.mem_map.2 ⟨g, h2, by rw [← e, h1]⟩) h.1
    · rcases List.mem_cons.1 hg with h2 | h2
      · exact absurd (List.mem_map.2 ⟨f, h1, by rw [e, h2]⟩) h.1
      · exact ih h.2 h1 h2
theorem JR.step {tbl : List (SOp × SV × List Nat)} (hb : base = slots ++ more) (hst : ∀ k v w w', Fr (fun _ => False) w w' → Φ k v w → Φ k v w')
    (ht : ∀ e ∈ tbl, FactR P W0 base m Φ e.1 e.2.1 e.2.2) (hfz : ∀ f ∈ fr, FreshR P W0 base m Φ f.k f.s f.deps) (hnd : (fr.map (·.k)).Nodup) (hkm : ∀ f ∈ fr, f.k < m)
    (hg : ∀ i o, ops[i]? = some o → goodR ops tbl fr base.length slots.length syms i o = true)
    {listed : Array Bool} (hls : listed.size = ops.length) {a : Act} {w : World} (hJ : JR (fun _ => False) ops fr W0 base m Φ slots defers syms listed a w) {i : Nat} (hi : i ∈ Region.ready .any ops.toArray listed)
    {K : Act → World → Prop} {Q : Exit → Act → World → Prop} (hK : ∀ a' w', JR (fun _ => False) ops fr W0 base m Φ slots defers syms (listed.setIfInBounds i true) a' w' → K a' w') : wpOp P ops.toArray Q i K a w := by
  obtain ⟨hun, o, ho, haf⟩ := mem_ready.1 hi
  have ho' : ops[i]? = some o := by simpa using ho
  obtain ⟨⟨φ, hφ, hsz, hdf, h1, h2, clo, h3⟩, hcl⟩ := id hJ
  obtain ⟨⟨d, hd, hw, hdn⟩, _, hcase⟩ := goodR_spec (hg i o ho')
  have hdst : ∀ j oj, ops[j]? = some oj → oj.dst = some d → j = i := by
    intro j oj hj hjd
    obtain ⟨⟨d', hd', hw', _⟩, _⟩ := goodR_spec (hg j oj hj)
    rw [hjd] at hd'
    cases hd'
    rw [hw] at hw'
    exact (Option.some.inj hw').symm
  obtain ⟨x, rfl⟩ : ∃ x : ExtW W0, w = x.w := by obtain ⟨x, rfl⟩ := hcl; exact ⟨⟨x.w, x.fr⟩, rfl⟩
  have hev : ∀ y u, evR slots.length ops syms i o y = some u → a.eval y = u.den (base ++ φ) := fun y u h => evR_den hb h1 h2 clo hls hun haf h
  have hdep : ∀ k, depR ops.length base.length syms o k = true → Φ k (φ.getD k undef) x.w ∧ ∃ f ∈ fr, f.k = k ∧ listed.getD f.i false = true := fun k hk => by
    obtain ⟨j, hj1, hj2⟩ := depR_spec hk
    exact h3 j k (aft_listed haf hj1) hj2
  unfold wpOp
  simp only [ho]
  rcases hcase with ⟨hwant, hsy⟩ | ⟨hwant, hcase⟩
  · rw [wantR_den h2 haf hwant]
    simp only [Bool.false_eq_true, if_false]
    refine hK _ _ ?_
    have := JR.next (Φ := Φ) hls hst hφ hsz hdf h1 h2 clo h3 ⟨⟨x.w, x.fr⟩, rfl⟩ ho' hun haf hd hw hdn hdst (fun _ _ => rfl) (fun _ _ _ _ => rfl) (Fr.refl _ x.w) (fun k hk => by rw [hsy] at hk; cases hk)
    rw [hsy] at this
    exact this
  · rw [wantR_den h2 haf hwant]
    simp only [if_true]
    refine .inl ?_
    rcases hcase with ⟨f, hf, hfi, hsop, hsy, hdeps⟩ | ⟨u, deps, _, hstep, hsy, hdeps, hnew⟩
    · refine hfz f hf φ hφ x (fun k hk => (hdep k (hdeps k hk)).1) _ a o hev hsop K Q fun v w' hfr hΦ => hK _ _ ?_
      have hget : (φ.set f.k v).getD f.k undef = v := by
        rw [List.getD_eq_getElem?_getD, List.getElem?_set_self (by rw [hφ]; exact hkm f hf)]; rfl
      have hoth : ∀ k, k ≠ f.k → (φ.set f.k v).getD k undef = φ.getD k undef := fun k hk => by
        rw [List.getD_eq_getElem?_getD, List.getElem?_set_ne (Ne.symm hk), ← List.getD_eq_getElem?_getD]
      have hfar : ∀ j k, listed.getD j false = true → syms.getD j .undef = .var (base.length + k) → k ≠ f.k := fun j k hj hk e => by
        obtain ⟨_, f', hf', hk', hl'⟩ := h3 j k hj hk
        have := nodup_k hnd hf' hf (hk'.trans e)
        subst this
        rw [hfi, unl hun] at hl'; cases hl'
      have hden : ∀ j, listed.getD j false = true → (syms.getD j .undef).den (base ++ φ.set f.k v) = (syms.getD j .undef).den (base ++ φ) := fun j hj => by
        cases hs : syms.getD j .undef with
        | var n =>
          by_cases hn : n < base.length
          · rw [den_base hn, den_base hn]
          · obtain ⟨k, rfl⟩ : ∃ k, n = base.length + k := ⟨n - base.length, by omega⟩
            rw [den_new, den_new, hoth k (hfar j k hj hs)]
        | _ => rfl
      have := JR.next (m := m) (Φ := Φ) (φ' := φ.set f.k v) hls hst (by rw [List.length_set]; exact hφ) hsz hdf h1 h2 clo h3 ⟨⟨x.w, x.fr⟩, rfl⟩ ho' hun haf hd hw hdn hdst hden (fun j k hj hk => hoth k (hfar j k hj hk)) hfr (fun k hk => by
        rw [hsy] at hk
        have hkf : f.k = k := by have := SV.var.inj hk; omega
        subst hkf
        exact ⟨by rw [hget]; exact hΦ, f, hf, rfl, .inl hfi⟩)
      rw [hsy, den_new, hget] at this
      exact this
    · refine wp_of_quietAt (stepR_den ht hφ x hev hstep fun k hk => (hdep k (hdeps k hk)).1) (Fr.refl _ _) fun w' hfr => hK _ _ ?_
      have := JR.next (Φ := Φ) hls hst hφ hsz hdf h1 h2 clo h3 ⟨⟨x.w, x.fr⟩, rfl⟩ ho' hun haf hd hw hdn hdst (fun _ _ => rfl) (fun _ _ _ _ => rfl) hfr (fun k hk => by
        rw [hsy] at hk
        subst hk
        simp only [newR] at hnew
        rw [if_pos (Nat.le_add_right _ _), Nat.add_sub_cancel_left] at hnew
        obtain ⟨q1, f, hf, hfk, hfl⟩ := hdep k hnew
        exact ⟨hst k _ _ _ hfr q1, f, hf, hfk, .inr hfl⟩)
      rw [hsy] at this
      exact this
theorem ready_none {listed : Array Bool} (hls : listed.size = ops.length) (hlow : ∀ i o, ops[i]? = some o → ∀ e ∈ o.after, Region.binds .any e = true → e.on < i)
    (h : Region.ready .any ops.toArray listed = []) : ∀ i, i < ops.length → listed.getD i false = true := by
  intro i
  induction i using Nat.strongRecOn with
  | _ i ih =>
    intro hi
    by_cases hl : listed.getD i false = true
    · exact hl
    · exfalso
      have hm : i ∈ Region.ready .any ops.toArray listed := mem_ready.2 ⟨un2 (by omega) hl, ops[i], by simp [hi], fun e he hb => by
        have := hlow i ops[i] (List.getElem?_eq_getElem hi) e he hb
        exact ih e.on this (by omega)⟩
      rw [h] at hm; cases hm
theorem cnt_set {listed : Array Bool} {i : Nat} (h : listed.getD i true = false) : (listed.setIfInBounds i true).toList.count false + 1 = listed.toList.count false := by
  have hi : i < listed.size := by
    by_cases hi : i < listed.size
    · exact hi
    · rw [Array.getD_eq_getD_getElem?, Array.getElem?_eq_none (by omega)] at h; cases h
  have hv : listed.toList[i]'(by simpa using hi) = false := by
    rw [Array.getD_eq_getD_getElem?, Array.getElem?_eq_getElem hi] at h; simpa using h
  rw [Array.toList_setIfInBounds]
  have e : listed.toList = listed.toList.take i ++ false :: listed.toList.drop (i + 1) := by
    conv => lhs; rw [← List.take_append_drop i listed.toList, List.drop_eq_getElem_cons (by simpa using hi), hv]
  have e2 : listed.toList.set i true = listed.toList.take i ++ true :: listed.toList.drop (i + 1) := List.set_eq_take_append_cons_drop.trans (by rw [if_pos (by simpa using hi)])
  rw [e2]
  conv => rhs; rw [e]
  simp only [List.count_append, List.count_cons]
  simp; omega
theorem relAny {tbl : List (SOp × SV × List Nat)} (hb : base = slots ++ more) (hst : ∀ k v w w', Fr (fun _ => False) w w' → Φ k v w → Φ k v w')
    (ht : ∀ e ∈ tbl, FactR P W0 base m Φ e.1 e.2.1 e.2.2) (hfz : ∀ f ∈ fr, FreshR P W0 base m Φ f.k f.s f.deps) (hnd : (fr.map (·.k)).Nodup) (hkm : ∀ f ∈ fr, f.k < m)
    (hg : ∀ i o, ops[i]? = some o → goodR ops tbl fr base.length slots.length syms i o = true) {Q : Exit → Act → World → Prop}
    (hQ : ∀ listed a w, (∀ i, i < ops.length → listed.getD i false = true) → JR (fun _ => False) ops fr W0 base m Φ slots defers syms listed a w → Q .normal a w) :
    ∀ (fuel : Nat) (listed : Array Bool) (a : Act) (w : World), listed.size = ops.length → listed.toList.count false = fuel → JR (fun _ => False) ops fr W0 base m Φ slots defers syms listed a w → wpAny P .any ops.toArray Q fuel listed a w := by
  have hlow : ∀ i o, ops[i]? = some o → ∀ e ∈ o.after, Region.binds .any e = true → e.on < i := fun i o ho => (goodR_spec (hg i o ho)).2.1
  intro fuel
  induction fuel with
  | zero =>
    intro listed a w hls hc hJ
    have hall : ∀ i, i < ops.length → listed.getD i false = true := fun i hi => by
      by_cases h : listed.getD i false = true
      · exact h
      · have := cnt_set (un2 (by omega) h); omega
    refine ⟨?_, hQ _ _ _ hall hJ⟩
    rw [List.eq_nil_iff_forall_not_mem]
    intro i hi
    have h1 := (mem_ready.1 hi).1
    have h2 := cnt_set h1
    omega
  | succ fuel ih =>
    intro listed a w hls hc hJ
    refine ⟨fun h => hQ _ _ _ (ready_none hls hlow h) hJ, fun i hi => ?_⟩
    refine JR.step hb hst ht hfz hnd hkm hg hls hJ hi fun a' w' hJ' => ih _ a' w' ?_ ?_ hJ'
    · rw [Array.size_setIfInBounds]; exact hls
    · have := cnt_set (mem_ready.1 hi).1; omega
end
/-- **A region that draws its order, reckoned; some of its steps make values of their own.** -/
theorem wp_region_rel {id : Nat} {Q : Exit → Act → World → Prop} {slots : List Value} {defers : List Deferred} {w : World} {l : List Oper} (more : List Value) (m : Nat) (Φ : Nat → Value → World → Prop) (tbl : List (SOp × SV × List Nat)) (fr : List Fz)
    (hm : P.follows .mixedOrders = true) (hst : ∀ k v w w', Fr (fun _ => False) w w' → Φ k v w → Φ k v w')
    (ht : ∀ e ∈ tbl, FactR P w (slots ++ more) m Φ e.1 e.2.1 e.2.2) (hfz : ∀ f ∈ fr, FreshR P w (slots ++ more) m Φ f.k f.s f.deps) (n N : Nat) (hn : slots.length = n) (hN : (slots ++ more).length = N) (s : Nat) (u : SV)
    (hr : (let syms := symsR l tbl fr N n l []; allR l tbl fr N n m syms && SV.eqb (outR l syms s) u && decide (s < n)) = true)
    (h : ∀ (x : ExtW w) (t : Array Value) (φ : List Value), t.size = n → t.getD s Go.undef = u.den (slots ++ more ++ φ) → (∀ d, wrt l d = none → t[d]? = slots[d]?) → (∀ k, u = .var (N + k) → Φ k (φ.getD k undef) x.w) → Q .normal ⟨t, defers⟩ x.w) : (Code.region id l.toArray true).wp P Q ⟨slots.toArray, defers⟩ w := by
  subst hn hN
  simp only [Bool.and_eq_true, decide_eq_true_eq] at hr
  obtain ⟨⟨hall, hu⟩, hs⟩ := hr
  generalize symsR l tbl fr (slots ++ more).length slots.length l [] = syms at *
  unfold allR at hall
  simp only [Bool.and_eq_true, decide_eq_true_eq, List.all_eq_true, List.mem_range] at hall
  obtain ⟨⟨hg, hnd⟩, hkm⟩ := hall
  have hg' : ∀ i o, l[i]? = some o → goodR l tbl fr (slots ++ more).length slots.length syms i o = true := fun i o ho => by
    have := hg i (List.getElem?_eq_some_iff.1 ho).1
    rw [ho] at this
    exact this
  refine wp_region_any hm (relAny (ops := l) (fr := fr) (defers := defers) rfl hst ht hfz hnd (fun f hf => by simpa using hkm f hf) hg' (fun listed a w' hl hJ => ?_) _ _ _ _ (by simp) (by simp) ?_)
  · obtain ⟨⟨φ, hφ, hsz, hdf, h1, h2, clo, h3⟩, x, rfl⟩ := hJ
    obtain ⟨t, d⟩ := a
    simp only at hsz hdf h1 h2
    subst hdf
    refine h ⟨x.w, x.fr⟩ t φ hsz ?_ (fun d hd => ?_) (fun k hk => ?_)
    · rw [← SV.eqb_eq hu]
      unfold outR
      split
      · rename_i i hi
        have hlt := (List.findIdx?_eq_some_iff_getElem.1 hi)
        obtain ⟨hil, hd, _⟩ := hlt
        have := h2 i l[i] s (List.getElem?_eq_getElem hil) (hl i hil) (by simpa using hd)
        rw [Array.getD_eq_getD_getElem?, this]; rfl
      · rename_i hi
        have := h1 s hs fun j hj => by rw [hi] at hj; cases hj
        rw [Array.getD_eq_getD_getElem?, this, List.append_assoc]
        simp [SV.den, List.getElem?_append_left hs]
    · by_cases hlt : d < slots.length
      · exact h1 d hlt fun j hj => by rw [hd] at hj; cases hj
      · rw [Array.getElem?_eq_none (show t.size ≤ d from by rw [hsz]; exact Nat.le_of_not_lt hlt), List.getElem?_eq_none (Nat.le_of_not_lt hlt)]
    · have ho := (SV.eqb_eq hu).trans hk
      unfold outR at ho
      split at ho
      · rename_i i hi
        exact (h3 i k (hl i (List.findIdx?_eq_some_iff_getElem.1 hi).1) ho).1
      · have := SV.var.inj ho
        rw [List.length_append] at this
        omega
  · have hno : ∀ i, (Array.replicate l.toArray.size false).getD i false = false := fun i => by
      rw [Array.getD_eq_getD_getElem?, Array.getElem?_replicate]; split <;> rfl
    refine ⟨⟨List.replicate m undef, by simp, by simp, rfl, fun t ht _ => by simp, ?_, ?_, ?_⟩, ⟨⟨_, Fr.drew _ _⟩, rfl⟩⟩
    · intro i o d _ hl; rw [hno] at hl; cases hl
    · intro i o _ hl; rw [hno] at hl; cases hl
    · intro i k hl; rw [hno] at hl; cases hl
end
section
variable {P : Program} {W0 : World} {base : List Value} {m : Nat} {Φ : Nat → Value → World → Prop}
theorem mk3_some {tag tag' : List Nat} {x y z : Option SV} {us : List SV} (h : mk3 tag x y z = some (tag', us)) : tag = tag' ∧ ∃ u v k, x = some u ∧ y = some v ∧ z = some k ∧ us = [u, v, k] := by
  cases x with
  | none => cases h
  | some u =>
    cases y with
    | none => cases h
    | some v =>
      cases z with
      | none => cases h
      | some k => cases h; exact ⟨rfl, u, v, k, rfl, rfl, rfl, rfl⟩
theorem sopOf2_of {ev : Operand → Option SV} {op : Op} {s : SOp} (h : sopOf2 ev op = some s) (h12 : s.1.headD 0 < 12) : sopOf ev op = some s := by
  obtain ⟨s1, s2⟩ := s
  unfold sopOf2 at h
  split at h
  all_goals first
    | exact h
    | (obtain ⟨e, _⟩ := mk1_some h; subst e; exact absurd h12 (by simp))
    | (obtain ⟨e, _⟩ := mk2_some h; subst e; exact absurd h12 (by simp))
    | (obtain ⟨e, _⟩ := mk3_some h; subst e; exact absurd h12 (by simp))
    | (split at h <;> cases h <;> exact absurd h12 (by simp))
    | (cases h; exact absurd h12 (by simp))
theorem sopR_of2 {ev : Operand → Option SV} {op : Op} {s : SOp} (h : sopR ev op = some s) (h8 : 12 ≤ s.1.headD 0) : sopOf2 ev op = some s := by
  obtain ⟨s1, s2⟩ := s
  unfold sopR at h
  split at h
  · split at h
    · cases h; exact absurd h8 (by simp)
    · cases h
  · obtain ⟨e, _⟩ := mk2_some h; subst e; exact absurd h8 (by simp)
  · obtain ⟨e, _⟩ := mk1_some h; subst e; exact absurd h8 (by simp)
  · obtain ⟨e, _⟩ := mk1_some h; subst e; exact absurd h8 (by simp)
  · exact h
theorem sopR_of {ev : Operand → Option SV} {op : Op} {s : SOp} (h : sopR ev op = some s) (h8 : s.1.headD 0 < 8) : sopOf ev op = some s := by
  obtain ⟨s1, s2⟩ := s
  unfold sopR at h
  split at h
  · split at h
    · cases h; exact absurd h8 (by simp)
    · cases h
  · obtain ⟨e, _⟩ := mk2_some h; subst e; exact absurd h8 (by simp)
  · obtain ⟨e, _⟩ := mk1_some h; subst e; exact absurd h8 (by simp)
  · obtain ⟨e, _⟩ := mk1_some h; subst e; exact absurd h8 (by simp)
  · exact sopOf2_of h (by omega)
/-- What is known of quiet steps serves here too: a load, two values compared. -/
theorem FactR.load {t : TypeId} {p v : SV} (hl : ∀ φ : List Value, LoadQ P t W0 (p.den (base ++ φ)) (v.den (base ++ φ))) : FactR P W0 base m Φ ([0, t], [p]) v [] := by
  intro φ _ x _ ev a o hev hs
  have hs := sopR_of hs (by simp)
  unfold sopOf at hs
  split at hs
  · rename_i t' y hop
    obtain ⟨e, u, hu, he⟩ := mk1_some hs
    simp only [List.cons.injEq, and_true, true_and] at e he
    subst e he
    refine quietAt_pure ?_
    have := (hl φ).go x a y (hev _ _ hu)
    simpa only [execOp, hop] using this
  · split at hs <;> cases hs
  all_goals first
    | exact absurd (mk1_some hs).1 (by simp)
    | exact absurd (mk2_some hs).1 (by simp)
    | cases hs
theorem FactR.bin {op : BinOp} {t : TypeId} {x y v : SV} (hop : ∀ op', binN op' = binN op → op' = op) (h : ∀ φ : List Value, BinQ P op t (x.den (base ++ φ)) (y.den (base ++ φ)) (v.den (base ++ φ))) : FactR P W0 base m Φ ([3, binN op, t], [x, y]) v [] := by
  intro φ _ z _ ev a o hev hs
  have hs := sopR_of hs (by simp)
  unfold sopOf at hs
  split at hs
  · exact absurd (mk1_some hs).1 (by simp)
  · split at hs <;> cases hs
  · rename_i op' t' y1 y2 ty ho
    obtain ⟨e, u, v, hu, hv, he⟩ := mk2_some hs
    simp only [List.cons.injEq, and_true, true_and] at e he
    obtain ⟨e1, rfl⟩ := e
    obtain ⟨rfl, rfl⟩ := he
    obtain rfl := hop _ e1
    refine quietAt_pure ?_
    have := (h φ).go z.w y1 y2
    simp only [execOp, ho, hev _ _ hu, hev _ _ hv]
    rw [Sem.run_bind, this]
    rfl
  all_goals first
    | exact absurd (mk1_some hs).1 (by simp)
    | exact absurd (mk2_some hs).1 (by simp)
    | cases hs
theorem FactR.binD {op : BinOp} {t : TypeId} {x y v : SV} {deps : List Nat} (hop : ∀ op', binN op' = binN op → op' = op) (h : ∀ (φ : List Value) (z : ExtW W0), (∀ k ∈ deps, Φ k (φ.getD k undef) z.w) → BinQ P op t (x.den (base ++ φ)) (y.den (base ++ φ)) (v.den (base ++ φ))) : FactR P W0 base m Φ ([3, binN op, t], [x, y]) v deps := by
  intro φ _ z hd ev a o hev hs
  have hs := sopR_of hs (by simp)
  unfold sopOf at hs
  split at hs
  · exact absurd (mk1_some hs).1 (by simp)
  · split at hs <;> cases hs
  · rename_i op' t' y1 y2 ty ho
    obtain ⟨e, u, v, hu, hv, he⟩ := mk2_some hs
    simp only [List.cons.injEq, and_true, true_and] at e he
    obtain ⟨e1, rfl⟩ := e
    obtain ⟨rfl, rfl⟩ := he
    obtain rfl := hop _ e1
    refine quietAt_pure ?_
    have := (h φ z hd).go z.w y1 y2
    simp only [execOp, ho, hev _ _ hu, hev _ _ hv]
    rw [Sem.run_bind, this]
    rfl
  all_goals first
    | exact absurd (mk1_some hs).1 (by simp)
    | exact absurd (mk2_some hs).1 (by simp)
    | cases hs
/-- A conversion, at a value that may be one that a step has made. -/
theorem FactR.conv {sT dT : TypeId} {p v : SV} {deps : List Nat} (h : ∀ (φ : List Value) (x : ExtW W0), (∀ k ∈ deps, Φ k (φ.getD k undef) x.w) → (convert sT dT (p.den (base ++ φ))).run P x.w = .ok (v.den (base ++ φ)) x.w) : FactR P W0 base m Φ ([7, sT, dT], [p]) v deps := by
  intro φ _ x hd ev a o hev hs
  have hs := sopR_of hs (by simp)
  unfold sopOf at hs
  split at hs
  · exact absurd (mk1_some hs).1 (by simp)
  · split at hs <;> cases hs
  · exact absurd (mk2_some hs).1 (by simp)
  · exact absurd (mk1_some hs).1 (by simp)
  · exact absurd (mk2_some hs).1 (by simp)
  · exact absurd (mk2_some hs).1 (by simp)
  · rename_i s' d' y hop
    obtain ⟨e, u, hu, he⟩ := mk1_some hs
    simp only [List.cons.injEq, and_true, true_and] at e he
    obtain ⟨rfl, rfl⟩ := e
    subst he
    refine quietAt_pure ?_
    simp only [execOp, hop, hev _ _ hu]
    rw [Sem.run_bind, h φ x hd]
    rfl
  · cases hs
/-- A function's place in the program. -/
def IsFn (P : Program) (f : FuncId) : Prop := ∃ fn c, P.funcs[f]? = some fn ∧ (fn.name == "runtime.NumGoroutine") = false ∧ fn.body = some c
theorem IsFn.mk' {P : Program} {f : FuncId} {fn : Func} {c : Code} (hf : P.funcs[f]? = some fn) (hn : (fn.name == "runtime.NumGoroutine") = false) (hb : fn.body = some c) : IsFn P f := ⟨fn, c, hf, hn, hb⟩
theorem callR {f : FuncId} (hfn : IsFn P f) {args : List SV} {r : List Value} {ev : Operand → Option SV} {a : Act} {o : Oper} (hev : ∀ y u, ev y = some u → a.eval y = u.den r) (hs : sopR ev o.op = some ([1, f], args)) (w : World) :
    (execOp a.eval o).run P w = .ok (.enter f (args.map (SV.den r)).toArray) w := by
  have hs := sopR_of hs (by simp)
  unfold sopOf at hs
  split at hs
  · obtain ⟨e, _⟩ := mk1_some hs; cases e
  · rename_i f' args' ats hop
    split at hs
    · rename_i us hus
      cases hs
      have hv := svs_eval hev hus
      obtain ⟨fn, c, hf, hname, hb⟩ := hfn
      have h1 : fn.name ≠ "runtime.NumGoroutine" := by simpa using hname
      have henter : ∀ (args : Array Value) (w : World), (callFunc f args).run P w = .ok (.enter f args) w := fun args w => by simp [callFunc, hf, h1, hb, mark]
      have hev' : a.eval (.func f) = .func (.func f) #[] #[] := rfl
      have hm : args'.map a.eval = (args.map (SV.den r)).toArray := by rw [← hv]; exact Array.toList_inj.1 (by simp)
      simp [execOp, hop, resolve, hev', hm, Deferred.ofValue, invoke, henter]
    · cases hs
  all_goals first
    | exact absurd (mk1_some hs).1 (by simp)
    | exact absurd (mk2_some hs).1 (by simp)
    | cases hs
theorem FactR.call {f : FuncId} {args : List SV} {v : SV} {deps : List Nat} (hfn : IsFn P f)
    (h : ∀ (φ : List Value) (x : ExtW W0), (∀ k ∈ deps, Φ k (φ.getD k undef) x.w) → Calls P f (args.map (SV.den (base ++ φ))).toArray x.w fun e w' => e = .returned (v.den (base ++ φ)) ∧ Fr (fun _ => False) x.w w') : FactR P W0 base m Φ ([1, f], args) v deps := by
  intro φ _ x hd ev a o hev hs
  unfold Oper.quietAt
  rw [callR hfn hev hs x.w]
  exact ⟨rfl, h φ x hd⟩
theorem FreshR.call {f : FuncId} {args : List SV} {k : Nat} {deps : List Nat} (hfn : IsFn P f)
    (h : ∀ (φ : List Value) (x : ExtW W0), (∀ k ∈ deps, Φ k (φ.getD k undef) x.w) → Calls P f (args.map (SV.den (base ++ φ))).toArray x.w fun e w' => ∃ v, e = .returned v ∧ Fr (fun _ => False) x.w w' ∧ Φ k v w') : FreshR P W0 base m Φ k ([1, f], args) deps := by
  intro φ _ x hd ev a o hev hs K Q hK
  unfold Oper.wp
  rw [callR hfn hev hs x.w]
  exact (h φ x hd).mono fun e w' ⟨v, he, hfr, hΦ⟩ => by subst he; exact hK v w' hfr hΦ
/-- A conversion that lays its value anew. -/
theorem FreshR.conv {sT dT : TypeId} {p : SV} {k : Nat} {deps : List Nat} (h : ∀ (φ : List Value) (x : ExtW W0), (∀ k ∈ deps, Φ k (φ.getD k undef) x.w) → ∃ v w', (convert sT dT (p.den (base ++ φ))).run P x.w = .ok v w' ∧ Fr (fun _ => False) x.w w' ∧ Φ k v w') : FreshR P W0 base m Φ k ([7, sT, dT], [p]) deps := by
  intro φ _ x hd ev a o hev hs K Q hK
  have hs := sopR_of hs (by simp)
  unfold sopOf at hs
  split at hs
  · exact absurd (mk1_some hs).1 (by simp)
  · split at hs <;> cases hs
  · exact absurd (mk2_some hs).1 (by simp)
  · exact absurd (mk1_some hs).1 (by simp)
  · exact absurd (mk2_some hs).1 (by simp)
  · exact absurd (mk2_some hs).1 (by simp)
  · rename_i s' d' y hop
    obtain ⟨e, u, hu, he⟩ := mk1_some hs
    simp only [List.cons.injEq, and_true, true_and] at e he
    obtain ⟨rfl, rfl⟩ := e
    subst he
    obtain ⟨v, w', hr, hf, hΦ⟩ := h φ x hd
    unfold Oper.wp execOp
    simp only [hop, hev _ _ hu, Sem.run_bind, Sem.run_pure, Result.andThen_ok, hr]
    exact hK v w' hf hΦ
  · cases hs
/-- len of a slice. -/
theorem FactR.lenS {t e : TypeId} {p v : SV} (ht : P.underlying t = some (.slice e)) (h : ∀ φ : List Value, ∃ a n c, p.den (base ++ φ) = .slice a n c ∧ v.den (base ++ φ) = .int .i64 (n : Int)) : FactR P W0 base m Φ ([8, t], [p]) v [] := by
  intro φ _ x _ ev a o hev hs
  unfold sopR at hs
  split at hs
  · rename_i args ats hop
    split at hs
    · rename_i us hus
      have h0 := Option.some.inj hs
      have h1 : ats.toList = [t] := (List.cons.inj (show 8 :: ats.toList = [8, t] from congrArg Prod.fst h0)).2
      obtain rfl : us = [p] := congrArg Prod.snd h0
      have hv := svs_eval hev hus
      obtain ⟨ad, n, c, e1, e2⟩ := h φ
      obtain ⟨y, rfl⟩ : ∃ y, args = #[y] := by
        have hl : args.size = 1 := by have := congrArg List.length hv; simpa using this
        exact ⟨args[0], Array.ext (by simp [hl]) (fun i h1 h2 => by
          obtain rfl : i = 0 := by omega
          rfl)⟩
      have hat : ats = #[t] := Array.toList_inj.1 (by simpa using h1)
      subst hat
      have hv : a.eval y = p.den (base ++ φ) := by simpa using hv
      refine quietAt_pure ?_
      rw [e1] at hv
      rw [e2]
      simp [execOp, hop, resolve, invoke, builtin, hv, Builtin.len_, run_underlying ht, goInt]
    · cases hs
  · exact absurd (mk2_some hs).1 (by simp)
  · exact absurd (mk1_some hs).1 (by simp)
  · exact absurd (mk1_some hs).1 (by simp)
  · rename_i hne
    exfalso
    have hs := sopOf2_of hs (by simp)
    unfold sopOf at hs
    split at hs
    all_goals first
      | exact absurd (mk1_some hs).1 (by simp)
      | exact absurd (mk2_some hs).1 (by simp)
      | (split at hs <;> cases hs)
      | cases hs
theorem allFR_nil : ∀ e ∈ ([] : List (SOp × SV × List Nat)), FactR P W0 base m Φ e.1 e.2.1 e.2.2 := by simp
theorem allFR_cons {s : SOp} {v : SV} {d : List Nat} {l : List (SOp × SV × List Nat)} (h : FactR P W0 base m Φ s v d) (hl : ∀ e ∈ l, FactR P W0 base m Φ e.1 e.2.1 e.2.2) : ∀ e ∈ (s, v, d) :: l, FactR P W0 base m Φ e.1 e.2.1 e.2.2 := by
  intro e he
  rcases List.mem_cons.1 he with rfl | he
  · exact h
  · exact hl e he
theorem allZ_nil : ∀ f ∈ ([] : List Fz), FreshR P W0 base m Φ f.k f.s f.deps := by simp
theorem allZ_cons {f : Fz} {l : List Fz} (h : FreshR P W0 base m Φ f.k f.s f.deps) (hl : ∀ f ∈ l, FreshR P W0 base m Φ f.k f.s f.deps) : ∀ g ∈ f :: l, FreshR P W0 base m Φ g.k g.s g.deps := by
  intro e he
  rcases List.mem_cons.1 he with rfl | he
  · exact h
  · exact hl e he
theorem neqN : ∀ op', binN op' = binN .neq → op' = .neq := by intro op' h; cases op' <;> simp_all [binN]
theorem gtrN : ∀ op', binN op' = binN .gtr → op' = .gtr := by intro op' h; cases op' <;> simp_all [binN]
theorem lssN : ∀ op', binN op' = binN .lss → op' = .lss := by intro op' h; cases op' <;> simp_all [binN]
theorem geqN : ∀ op', binN op' = binN .geq → op' = .geq := by intro op' h; cases op' <;> simp_all [binN]
theorem BinQ.nint {t : TypeId} {k : IntKind} {a b : Int} {e : Bool} (h : (!(a == b)) = e) : BinQ P .neq t (.int k a) (.int k b) (.bool e) :=
  ⟨fun w x y => by subst h; simp [go_sem, bne]⟩
theorem BinQ.gtr {t : TypeId} {k : IntKind} {a b : Int} {e : Bool} (h : decide (b < a) = e) : BinQ P .gtr t (.int k a) (.int k b) (.bool e) :=
  ⟨fun w x y => by subst h; simp [go_sem]⟩
theorem BinQ.ptrNil {t : TypeId} (ht : P.underlying t = some (.pointer (P.pointee t))) {a : Addr} : BinQ P .eql t (.pointer (some a)) (.pointer none) (.bool false) :=
  ⟨fun w x y => by simp [go_sem, run_eql_pointer_nil (h := ht)]⟩
theorem BinQ.str {t : TypeId} {a b : List UInt8} {e : Bool} (h : (a == b) = e) : BinQ P .eql t (.string ⟨a.toArray⟩) (.string ⟨b.toArray⟩) (.bool e) :=
  ⟨fun w x y => by subst h; simp [go_sem]⟩
theorem BinQ.nstr {t : TypeId} {a b : List UInt8} {e : Bool} (h : (!(a == b)) = e) : BinQ P .neq t (.string ⟨a.toArray⟩) (.string ⟨b.toArray⟩) (.bool e) :=
  ⟨fun w x y => by subst h; simp [go_sem]⟩
end
/-- A frame written out. -/
theorem frame_lit (t : Array Value) (n : Nat) (hn : t.size = n) (L : List Value) (hL : (List.range n).map (fun i => t.getD i undef) = L) : t = L.toArray := by
  subst hL
  apply Array.ext
  · simp [hn]
  · intro i h1 h2
    simp [h1]
/-- Slices that steps have made, each with what it reads as. -/
def SlΦ (L : List (List UInt8)) (k : Nat) (v : Value) (w : World) : Prop := Sl w 1 v (L.getD k []).length (bvs (L.getD k []))
theorem SlΦ.stable (L : List (List UInt8)) : ∀ k v w w', Fr (fun _ => False) w w' → SlΦ L k v w → SlΦ L k v w' := fun _ _ _ _ hf h => Sl.fr h hf (fun _ _ _ _ => id)
theorem ofExt {W0 : World} (x : ExtW W0) {w' : World} (h : Below x.w.heap.size x.w w') : Fr (fun _ => False) x.w w' := Fr.ofBelow h _
end Go.Bx
