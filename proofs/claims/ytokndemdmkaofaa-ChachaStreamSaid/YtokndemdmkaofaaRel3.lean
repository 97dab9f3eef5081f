/- The same with stores, and with steps that read what a later step changes: such a step is told at the state in which it comes up. No condition. -/
import Derived.Test.YtokndemdmkaofaaRel2
namespace Go.Bx
open Go Go.RowKit
/-- A fact of the table: the step, what it answers, the made values and the state that it needs. -/
structure T3 where
  s : SOp
  v : SV
  deps : List Nat
  st : Option Nat
/-- Behind another step, at however many removes. -/
def beh (ops : List Oper) (j : Nat) : Nat → Oper → Bool
  | 0, _ => false
  | n + 1, o => aft o j || o.after.any fun e => Region.binds .any e && (decide (j < e.on) && (match ops[e.on]? with | some o' => beh ops j n o' | none => false))
theorem beh_listed {ops : List Oper} {listed : Array Bool} {j : Nat} (clo : ∀ i o, ops[i]? = some o → listed.getD i false = true → ∀ e ∈ o.after, Region.binds .any e = true → listed.getD e.on false = true) :
    ∀ (n : Nat) (o : Oper), (∀ e ∈ o.after, Region.binds .any e = true → listed.getD e.on false = true) → beh ops j n o = true → listed.getD j false = true
  | 0, _, _, h => by cases h
  | n + 1, o, haf, h => by
    unfold beh at h
    rw [Bool.or_eq_true] at h
    rcases h with h | h
    · exact aft_listed haf h
    · rw [Array.any_eq_true] at h
      obtain ⟨k, hk, hb⟩ := h
      simp only [Bool.and_eq_true] at hb
      have hl := haf _ (Array.getElem_mem hk) hb.1
      have h2 := hb.2.2
      split at h2
      · rename_i o' ho'
        exact beh_listed clo n o' (clo _ o' ho' hl) h2
      · cases h2
def stepT (ev : Operand → Option SV) (tbl : List T3) : Op → Option (SV × List Nat × Option Nat)
  | .move x => (ev x).map (·, [], none)
  | .assign x => (ev x).map (·, [], none)
  | .pick c x y => match ev c with
    | some (.bool b) => (if b then ev x else ev y).map (·, [], none)
    | _ => none
  | .unOp .not _ x => match ev x with
    | some (.bool b) => some (.bool !b, [], none)
    | _ => none
  | op => match sopR ev op with
    | some s => match tbl.find? fun e => sopEqb e.s s with
      | some e => some (e.v, e.deps, e.st)
      | none => none
    | none => none
def stT (ops : List Oper) (sts : List Nat) (i : Nat) (o : Oper) : Option Nat → Bool
  | none => true
  | some j => decide (j ≤ sts.length) && (j == 0 || beh ops (sts.getD (j - 1) 0) 4 o) && (j == sts.length || match ops[sts.getD j 0]? with | some o' => beh ops i 4 o' | none => false)
def goodT (ops : List Oper) (tbl : List T3) (fr : List Fz) (sts : List Nat) (N n : Nat) (syms : List SV) (i : Nat) (o : Oper) : Bool :=
  (match o.dst with | some d => wrt ops d == some i && decide (d < n) | none => true) && (o.after.all fun e => !Region.binds .any e || decide (e.on < i)) &&
  match wantR ops syms o with
  | some false => SV.eqb (syms.getD i .undef) .undef
  | some true => match fr.find? (fun f => f.i == i) with
    | some f => (match sopR (evR n ops syms i o) o.op with | some s => sopEqb f.s s | none => false) && SV.eqb (syms.getD i .undef) (.var (N + f.k)) && f.deps.all (depR ops.length N syms o)
    | none => match stepT (evR n ops syms i o) tbl o.op with
      | some (u, deps, st) => SV.eqb (syms.getD i .undef) u && deps.all (depR ops.length N syms o) && newR ops.length N syms o u && stT ops sts i o st
      | none => false
  | none => false
def allT (ops : List Oper) (tbl : List T3) (fr : List Fz) (sts : List Nat) (N n m : Nat) (syms : List SV) : Bool :=
  (List.range ops.length).all (fun i => match ops[i]? with | some o => goodT ops tbl fr sts N n syms i o | none => true) && decide ((fr.map (·.k)).Nodup) && fr.all (fun f => decide (f.k < m))
def symsT (ops : List Oper) (tbl : List T3) (fr : List Fz) (N n : Nat) : List Oper → List SV → List SV
  | [], acc => acc
  | o :: rest, acc =>
    let i := acc.length
    let u := match wantR ops acc o with
      | some true => match fr.find? (fun f => f.i == i) with
        | some f => .var (N + f.k)
        | none => match stepT (evR n ops acc i o) tbl o.op with
          | some (u, _) => u
          | none => .undef
      | _ => .undef
    symsT ops tbl fr N n rest (acc ++ [u])
def chainT (ops : List Oper) (fr : List Fz) (N : Nat) (syms : List SV) (sts : List Nat) : Bool :=
  (List.range sts.length).all fun j => match ops[sts.getD j 0]? with
    | some o => (j == 0 || beh ops (sts.getD (j - 1) 0) 4 o) && (match fr.find? (fun f => f.i == sts.getD j 0) with | some f => SV.eqb (syms.getD (sts.getD j 0) .undef) (.var (N + f.k)) | none => false) && stOf sts (sts.getD j 0) == some j
    | none => false
section
variable {P : Program} {W0 : World} {base : List Value} {m : Nat} {Φ : Nat → Value → World → Prop} {S : Nat → Prop} {St : Nat → World → Prop}
/-- What a step answers; st: at that state only. -/
def FactT (P : Program) (S : Nat → Prop) (St : Nat → World → Prop) (W0 : World) (base : List Value) (m : Nat) (Φ : Nat → Value → World → Prop) (t : T3) : Prop :=
  ∀ (φ : List Value), φ.length = m → ∀ x : ExtS S W0, (∀ k ∈ t.deps, Φ k (φ.getD k undef) x.w) → (∀ j, t.st = some j → St j x.w) → ∀ (ev : Operand → Option SV) (a : Act) (o : Oper), (∀ y u, ev y = some u → a.eval y = u.den (base ++ φ)) → sopR ev o.op = some t.s →
    o.quietAt P a (fun w' => Fr (fun _ => False) x.w w') x.w (t.v.den (base ++ φ))
theorem FactT.of {s : SOp} {v : SV} {deps : List Nat} (h : ∀ x : ExtS S W0, FactR P x.w base m Φ s v deps) : FactT P S St W0 base m Φ ⟨s, v, deps, none⟩ := fun φ hφ x hd _ ev a o hev hs => h x φ hφ ⟨x.w, Fr.refl _ _⟩ hd ev a o hev hs
theorem FactT.ofAt {s : SOp} {v : SV} {deps : List Nat} {j : Nat} (h : ∀ x : ExtS S W0, St j x.w → FactR P x.w base m Φ s v deps) : FactT P S St W0 base m Φ ⟨s, v, deps, some j⟩ := fun φ hφ x hd hS ev a o hev hs => h x (hS j rfl) φ hφ ⟨x.w, Fr.refl _ _⟩ hd ev a o hev hs
theorem stepT_den {tbl : List T3} (ht : ∀ e ∈ tbl, FactT P S St W0 base m Φ e) {φ : List Value} (hφ : φ.length = m) (x : ExtS S W0) {ev : Operand → Option SV} {a : Act} {o : Oper}
    (hev : ∀ y u, ev y = some u → a.eval y = u.den (base ++ φ)) {u : SV} {deps : List Nat} {st : Option Nat} (h : stepT ev tbl o.op = some (u, deps, st)) (hd : ∀ k ∈ deps, Φ k (φ.getD k undef) x.w) (hS : ∀ j, st = some j → St j x.w) :
    o.quietAt P a (fun w' => Fr (fun _ => False) x.w w') x.w (u.den (base ++ φ)) := by
  unfold stepT at h
  split at h
  · rename_i y hop
    obtain ⟨u', hu, he⟩ := Option.map_eq_some_iff.1 h
    cases he
    exact quietAt_pure (by rw [BigFrame.run_move y hop, hev _ _ hu])
  · rename_i y hop
    obtain ⟨u', hu, he⟩ := Option.map_eq_some_iff.1 h
    cases he
    exact quietAt_pure (by rw [BigFrame.run_assign y hop, hev _ _ hu])
  · rename_i c y z hop
    split at h
    · rename_i b hc
      have e : a.eval c = .bool b := hev _ _ hc
      obtain ⟨u', hu, he⟩ := Option.map_eq_some_iff.1 h
      cases he
      refine quietAt_pure ?_
      cases b
      · simp only [Bool.false_eq_true, if_false] at hu
        simp [execOp, hop, e, asBool, hev _ _ hu]
      · simp only [if_true] at hu
        simp [execOp, hop, e, asBool, hev _ _ hu]
    · cases h
  · rename_i t y hop
    split at h
    · rename_i b hc
      cases h
      have e := hev _ _ hc
      exact quietAt_pure (by simp [execOp, hop, e, SV.den, Op.unary])
    · cases h
  · split at h
    · rename_i s hs
      split at h
      · rename_i e he
        have h1 := List.find?_some he
        have h2 := List.mem_of_find?_eq_some he
        have h3 := sopEqb_eq h1
        obtain ⟨e1, e2, e3, e4⟩ := e
        cases h
        exact ht _ h2 φ hφ x hd hS ev a o hev (by rw [hs]; exact congrArg some h3.symm)
      · cases h
    · cases h
section
variable {ops : List Oper} {fr : List Fz} {slots more : List Value} {defers : List Deferred} {syms : List SV} {sts : List Nat}
theorem chainT_spec {N : Nat} (h : chainT ops fr N syms sts = true) {j : Nat} (hj : j < sts.length) :
    ∃ o, ops[sts.getD j 0]? = some o ∧ (0 < j → beh ops (sts.getD (j - 1) 0) 4 o = true) ∧ (∃ k, syms.getD (sts.getD j 0) .undef = .var (N + k)) ∧ stOf sts (sts.getD j 0) = some j ∧ fr.find? (fun f => f.i == sts.getD j 0) ≠ none := by
  unfold chainT at h
  rw [List.all_eq_true] at h
  have := h j (List.mem_range.2 hj)
  split at this
  · rename_i o ho
    simp only [Bool.and_eq_true, Bool.or_eq_true, beq_iff_eq] at this
    obtain ⟨⟨h1, h2⟩, h3⟩ := this
    split at h2
    · rename_i f hf
      refine ⟨o, ho, fun h0 => ?_, ⟨f.k, SV.eqb_eq h2⟩, h3, by rw [hf]; simp⟩
      rcases h1 with h1 | h1
      · omega
      · exact h1
    · cases h2
  · cases this
theorem goodT_spec {tbl : List T3} {N n : Nat} {i : Nat} {o : Oper} (h : goodT ops tbl fr sts N n syms i o = true) :
    (∀ d, o.dst = some d → wrt ops d = some i ∧ d < n) ∧ (∀ e ∈ o.after, Region.binds .any e = true → e.on < i) ∧
    ((wantR ops syms o = some false ∧ syms.getD i .undef = .undef) ∨
     (wantR ops syms o = some true ∧ ((∃ f ∈ fr, f.i = i ∧ sopR (evR n ops syms i o) o.op = some f.s ∧ syms.getD i .undef = .var (N + f.k) ∧ ∀ k ∈ f.deps, depR ops.length N syms o k = true) ∨
      (∃ u deps st, fr.find? (fun f => f.i == i) = none ∧ stepT (evR n ops syms i o) tbl o.op = some (u, deps, st) ∧ syms.getD i .undef = u ∧ (∀ k ∈ deps, depR ops.length N syms o k = true) ∧ newR ops.length N syms o u = true ∧ stT ops sts i o st = true)))) := by
  unfold goodT at h
  simp only [Bool.and_eq_true] at h
  obtain ⟨⟨hd, ha⟩, h⟩ := h
  refine ⟨?_, ?_, ?_⟩
  · intro d hdo
    rw [hdo] at hd
    simp only [Bool.and_eq_true, beq_iff_eq, decide_eq_true_eq] at hd
    exact hd
  · intro e he hb
    rw [Array.all_eq_true] at ha
    obtain ⟨k, hk, rfl⟩ := Array.mem_iff_getElem.1 he
    have := ha k hk
    rw [hb] at this
    simpa using this
  · split at h
    · rename_i hw; exact .inl ⟨hw, SV.eqb_eq h⟩
    · rename_i hw
      refine .inr ⟨hw, ?_⟩
      split at h
      · rename_i f hf
        simp only [Bool.and_eq_true, List.all_eq_true] at h
        obtain ⟨⟨hs, hv⟩, hdp⟩ := h
        split at hs
        · rename_i s hs'
          exact .inl ⟨f, List.mem_of_find?_eq_some hf, by simpa using List.find?_some hf, by rw [hs', sopEqb_eq hs], SV.eqb_eq hv, hdp⟩
        · cases hs
      · rename_i hnone
        split at h
        · rename_i u deps st hst
          simp only [Bool.and_eq_true, List.all_eq_true] at h
          exact .inr ⟨u, deps, st, hnone, hst, SV.eqb_eq h.1.1.1, h.1.1.2, h.1.2, h.2⟩
        · cases h
    · cases h
/-- One step more; a step that leaves nothing in a slot too. -/
theorem JR.nextT {listed : Array Bool} {a : Act} {w w' : World} (hls : listed.size = ops.length) (hst : ∀ k v w w', Fr S w w' → Φ k v w → Φ k v w')
    {φ φ' : List Value} (hφ : φ'.length = m) (hsz : a.tmps.size = slots.length) (hdf : a.defers = defers)
    (h1 : ∀ t, t < slots.length → (∀ i, wrt ops t = some i → listed.getD i true = false) → a.tmps[t]? = slots[t]?)
    (h2 : ∀ i o d, ops[i]? = some o → listed.getD i false = true → o.dst = some d → a.tmps[d]? = some ((syms.getD i .undef).den (base ++ φ)))
    (clo : ∀ i o, ops[i]? = some o → listed.getD i false = true → ∀ e ∈ o.after, Region.binds .any e = true → listed.getD e.on false = true)
    (h3 : ∀ i k, listed.getD i false = true → syms.getD i .undef = .var (base.length + k) → Φ k (φ.getD k undef) w ∧ ∃ f ∈ fr, f.k = k ∧ listed.getD f.i false = true)
    (hcl : ∃ x : ExtS S W0, w = x.w) {i : Nat} {o : Oper} (ho : ops[i]? = some o) (hi : listed.getD i true = false) (haf : ∀ e ∈ o.after, Region.binds .any e = true → listed.getD e.on false = true)
    (hdd : ∀ d, o.dst = some d → (wrt ops d = some i ∧ d < slots.length) ∧ ∀ j oj, ops[j]? = some oj → oj.dst = some d → j = i)
    (hden : ∀ j, listed.getD j false = true → (syms.getD j .undef).den (base ++ φ') = (syms.getD j .undef).den (base ++ φ))
    (hkeep : ∀ j k, listed.getD j false = true → syms.getD j .undef = .var (base.length + k) → φ'.getD k undef = φ.getD k undef)
    (hfr : Fr S w w')
    (hnew : ∀ k, syms.getD i .undef = .var (base.length + k) → Φ k (φ'.getD k undef) w' ∧ ∃ f ∈ fr, f.k = k ∧ (f.i = i ∨ listed.getD f.i false = true)) :
    JR S ops fr W0 base m Φ slots defers syms (listed.setIfInBounds i true) (a.put o.dst ((syms.getD i .undef).den (base ++ φ'))) w' := by
  cases hd : o.dst with
  | some d =>
    obtain ⟨⟨hw, hdn⟩, hdst⟩ := hdd d hd
    have := JR.next (Φ := Φ) (fr := fr) (syms := syms) hls hst hφ hsz hdf h1 h2 clo h3 hcl ho hi haf hd hw hdn hdst hden hkeep hfr hnew
    rw [hd] at this
    exact this
  | none =>
    have hil : i < listed.size := by rw [hls]; exact (List.getElem?_eq_some_iff.1 ho).1
    have up : ∀ j, listed.getD j false = true → (listed.setIfInBounds i true).getD j false = true := fun j hj => by rw [set_get, hj]; split <;> rfl
    have dn : ∀ j, (listed.setIfInBounds i true).getD j false = true → j = i ∨ listed.getD j false = true := fun j hj => by
      rw [set_get] at hj
      split at hj
      · rename_i h; exact .inl h.1
      · exact .inr hj
    have self : (listed.setIfInBounds i true).getD i false = true := by rw [set_get, if_pos ⟨rfl, hil⟩]
    refine ⟨⟨φ', hφ, hsz, hdf, ?_, ?_, ?_, ?_⟩, ?_⟩
    · intro t ht hno
      exact h1 t ht fun j hj => (set_get' (hno j hj)).1
    · intro j oj e hj hjl he
      rcases dn j hjl with h | hjk
      · rw [h, ho] at hj
        cases hj
        rw [hd] at he; cases he
      · show a.tmps[e]? = _
        rw [h2 j oj e hj hjk he, hden j hjk]
    · intro j oj hj hjl e he hb
      rcases dn j hjl with h | hjl
      · rw [h, ho] at hj
        cases hj
        exact up _ (haf e he hb)
      · exact up _ (clo j oj hj hjl e he hb)
    · intro j k hjl hk
      rcases dn j hjl with h | hjl
      · rw [h] at hk
        obtain ⟨q1, f, hf, hk', hq⟩ := hnew k hk
        refine ⟨q1, f, hf, hk', ?_⟩
        rcases hq with hq | hq
        · rw [hq]; exact self
        · exact up _ hq
      · obtain ⟨q1, f, hf, hk', hq⟩ := h3 j k hjl hk
        exact ⟨by rw [hkeep j k hjl hk]; exact hst k _ _ _ hfr q1, f, hf, hk', up _ hq⟩
    · obtain ⟨x, rfl⟩ := hcl
      exact ⟨⟨w', x.fr.trans hfr⟩, rfl⟩
theorem JT.step {tbl : List T3} (hb : base = slots ++ more) (hst : ∀ k v w w', Fr S w w' → Φ k v w → Φ k v w') (hSt : ∀ j w w', Fr (fun _ => False) w w' → St j w → St j w')
    (ht : ∀ e ∈ tbl, FactT P S St W0 base m Φ e) (hfz : ∀ f ∈ fr, FreshS P S St W0 base m Φ (stOf sts f.i) f.k f.s f.deps) (hnd : (fr.map (·.k)).Nodup) (hkm : ∀ f ∈ fr, f.k < m)
    (hch : chainT ops fr base.length syms sts = true)
    (hg : ∀ i o, ops[i]? = some o → goodT ops tbl fr sts base.length slots.length syms i o = true)
    {listed : Array Bool} (hls : listed.size = ops.length) {a : Act} {w : World} (hJ : JR S ops fr W0 base m Φ slots defers syms listed a w) (hJS : JS St sts listed w) {i : Nat} (hi : i ∈ Region.ready .any ops.toArray listed)
    {K : Act → World → Prop} {Q : Exit → Act → World → Prop} (hK : ∀ a' w', JR S ops fr W0 base m Φ slots defers syms (listed.setIfInBounds i true) a' w' → JS St sts (listed.setIfInBounds i true) w' → K a' w') : wpOp P ops.toArray Q i K a w := by
  obtain ⟨hun, o, ho, haf⟩ := mem_ready.1 hi
  have ho' : ops[i]? = some o := by simpa using ho
  obtain ⟨⟨φ, hφ, hsz, hdf, h1, h2, clo, h3⟩, hcl⟩ := id hJ
  obtain ⟨hdd0, _, hcase⟩ := goodT_spec (hg i o ho')
  have hdd : ∀ d, o.dst = some d → (wrt ops d = some i ∧ d < slots.length) ∧ ∀ j oj, ops[j]? = some oj → oj.dst = some d → j = i := fun d hd => ⟨hdd0 d hd, fun j oj hj hjd => by
    have hw' := ((goodT_spec (hg j oj hj)).1 d hjd).1
    rw [(hdd0 d hd).1] at hw'
    exact (Option.some.inj hw').symm⟩
  have hil : i < listed.size := by rw [hls]; exact (List.getElem?_eq_some_iff.1 ho').1
  obtain ⟨x, rfl⟩ := hcl
  have hev : ∀ y u, evR slots.length ops syms i o y = some u → a.eval y = u.den (base ++ φ) := fun y u h => evR_den hb h1 h2 clo hls hun haf h
  have hdep : ∀ k, depR ops.length base.length syms o k = true → Φ k (φ.getD k undef) x.w ∧ ∃ f ∈ fr, f.k = k ∧ listed.getD f.i false = true := fun k hk => by
    obtain ⟨j, hj1, hj2⟩ := depR_spec hk
    exact h3 j k (aft_listed haf hj1) hj2
  obtain ⟨jj, hjj, hSj, hcnt⟩ := id hJS.ex
  have keepS : ∀ w', stOf sts i = none → St jj w' → JS St sts (listed.setIfInBounds i true) w' := fun w' hn hS => ⟨jj, hjj, hS, fun q hq => by
    have hne : sts.getD q 0 ≠ i := fun e => by
      have := List.findIdx?_eq_none_iff.1 hn (sts.getD q 0) (by rw [List.getD_eq_getElem?_getD, List.getElem?_eq_getElem hq]; exact List.getElem_mem hq)
      rw [e] at this
      simp at this
    rw [set_get, if_neg (fun h => hne h.1)]
    exact hcnt q hq⟩
  have undefNo : stOf sts i = none ∨ ((∃ k, syms.getD i .undef = .var (base.length + k)) ∧ fr.find? (fun f => f.i == i) ≠ none) := by
    cases hs : stOf sts i with
    | none => exact .inl rfl
    | some j =>
      obtain ⟨hj, he⟩ := stOf_spec hs
      obtain ⟨_, _, _, hk, _, hf⟩ := chainT_spec hch hj
      rw [he] at hk hf
      exact .inr ⟨hk, hf⟩
  unfold wpOp
  simp only [ho]
  rcases hcase with ⟨hwant, hsy⟩ | ⟨hwant, hcase⟩
  · rw [wantR_den h2 haf hwant]
    simp only [Bool.false_eq_true, if_false]
    have hn : stOf sts i = none := by
      rcases undefNo with h | ⟨⟨k, hk⟩, _⟩
      · exact h
      · rw [hsy] at hk; cases hk
    refine hK _ _ ?_ (keepS _ hn hSj)
    have := JR.nextT (Φ := Φ) hls hst hφ hsz hdf h1 h2 clo h3 ⟨x, rfl⟩ ho' hun haf hdd (fun _ _ => rfl) (fun _ _ _ _ => rfl) (Fr.refl _ x.w) (fun k hk => by rw [hsy] at hk; cases hk)
    rw [hsy] at this
    exact this
  · rw [wantR_den h2 haf hwant]
    simp only [if_true]
    refine .inl ?_
    rcases hcase with ⟨f, hf, hfi, hsop, hsy, hdeps⟩ | ⟨u, deps, st, hnone, hstep, hsy, hdeps, hnew, hstT⟩
    · have hnow : ∀ q, stOf sts f.i = some q → q = jj := fun q hq => by
        obtain ⟨hql, hqe⟩ := stOf_spec hq
        rw [hfi] at hqe
        have hlow : ¬ q < jj := fun h => by
          have := (hcnt q hql).2 h
          rw [hqe, unl hun] at this; cases this
        obtain ⟨o2, ho2, hch2, _, _, _⟩ := chainT_spec hch hql
        rw [hqe, ho'] at ho2
        cases ho2
        by_cases h0 : 0 < q
        · have := (hcnt (q - 1) (by omega)).1 (beh_listed clo 4 o haf (hch2 h0)); omega
        · omega
      refine hfz f hf φ hφ x (fun k hk => (hdep k (hdeps k hk)).1) (fun q hq => by rw [hnow q hq]; exact hSj) _ a o hev hsop K Q fun v w' hfr0 hfr hS' hΦ => hK _ _ ?_ ?_
      · have hget : (φ.set f.k v).getD f.k undef = v := by
          rw [List.getD_eq_getElem?_getD, List.getElem?_set_self (by rw [hφ]; exact hkm f hf)]; rfl
        have hoth : ∀ k, k ≠ f.k → (φ.set f.k v).getD k undef = φ.getD k undef := fun k hk => by
          rw [List.getD_eq_getElem?_getD, List.getElem?_set_ne (Ne.symm hk), ← List.getD_eq_getElem?_getD]
        have hfar : ∀ j k, listed.getD j false = true → syms.getD j .undef = .var (base.length + k) → k ≠ f.k := fun j k hj hk e => by
          obtain ⟨_, f', hf', hk', hl'⟩ := h3 j k hj hk
          have := nodup_k hnd hf' hf (hk'.trans e)
          subst this
          rw [hfi, unl hun] at hl'; cases hl'
        have hden : ∀ j, listed.getD j false = true → (syms.getD j .undef).den (base ++ φ.set f.k v) = (syms.getD j .undef).den (base ++ φ) := fun j hj => by
          cases hs : syms.getD j .undef with
          | var n =>
            by_cases hn : n < base.length
            · rw [den_base hn, den_base hn]
            · obtain ⟨k, rfl⟩ : ∃ k, n = base.length + k := ⟨n - base.length, by omega⟩
              rw [den_new, den_new, hoth k (hfar j k hj hs)]
          | _ => rfl
        have := JR.nextT (m := m) (Φ := Φ) (φ' := φ.set f.k v) hls hst (by rw [List.length_set]; exact hφ) hsz hdf h1 h2 clo h3 ⟨x, rfl⟩ ho' hun haf hdd hden (fun j k hj hk => hoth k (hfar j k hj hk)) hfr (fun k hk => by
          rw [hsy] at hk
          have hkf : f.k = k := by have := SV.var.inj hk; omega
          subst hkf
          exact ⟨by rw [hget]; exact hΦ, f, hf, rfl, .inl hfi⟩)
        rw [hsy, den_new, hget] at this
        exact this
      · cases hs : stOf sts f.i with
        | none => exact keepS _ (by rw [← hfi]; exact hs) (hSt jj _ _ (hfr0 hs) hSj)
        | some q =>
          have hq := hnow q hs
          subst hq
          obtain ⟨hql, hqe⟩ := stOf_spec hs
          refine ⟨q + 1, by omega, hS' q hs, fun p hp => ?_⟩
          rw [set_get]
          by_cases hpq : p = q
          · subst hpq
            rw [if_pos ⟨by rw [hqe, hfi], hil⟩]
            simp
          · have hne : sts.getD p 0 ≠ i := fun e => by
              obtain ⟨_, _, _, _, hs2, _⟩ := chainT_spec hch hp
              obtain ⟨_, _, _, _, hs3, _⟩ := chainT_spec hch hql
              rw [e] at hs2
              rw [hqe, hfi] at hs3
              rw [hs2] at hs3
              exact hpq (Option.some.inj hs3)
            rw [if_neg (fun h => hne h.1), hcnt p hp]
            omega
    · have hn : stOf sts i = none := by
        rcases undefNo with h | ⟨_, h⟩
        · exact h
        · exact absurd hnone h
      have hSnow : ∀ j, st = some j → St j x.w := fun j hj => by
        subst hj
        simp only [stT, Bool.and_eq_true, Bool.or_eq_true, beq_iff_eq, decide_eq_true_eq] at hstT
        obtain ⟨⟨hjl, hlo⟩, hhi⟩ := hstT
        have h1' : j ≤ jj := by
          rcases hlo with h | h
          · omega
          · by_cases h0 : j = 0
            · omega
            · have := (hcnt (j - 1) (by omega)).1 (beh_listed clo 4 o haf h); omega
        have h2' : ¬ j < jj := fun hlt => by
          have hjs : j < sts.length := by omega
          rcases hhi with h | h
          · omega
          · split at h
            · rename_i o' ho''
              have hl := (hcnt j hjs).2 hlt
              have := beh_listed clo 4 o' (clo _ o' ho'' hl) h
              rw [unl hun] at this; cases this
            · cases h
        have : j = jj := by omega
        rw [this]; exact hSj
      refine wp_of_quietAt (stepT_den ht hφ x hev hstep (fun k hk => (hdep k (hdeps k hk)).1) hSnow) (Fr.refl _ _) fun w' hfr => hK _ _ ?_ (keepS _ hn (hSt jj _ _ hfr hSj))
      have := JR.nextT (Φ := Φ) hls hst hφ hsz hdf h1 h2 clo h3 ⟨x, rfl⟩ ho' hun haf hdd (fun _ _ => rfl) (fun _ _ _ _ => rfl) (hfr.mono fun _ _ h => h.elim) (fun k hk => by
        rw [hsy] at hk
        subst hk
        simp only [newR] at hnew
        rw [if_pos (Nat.le_add_right _ _), Nat.add_sub_cancel_left] at hnew
        obtain ⟨q1, f, hf, hfk, hfl⟩ := hdep k hnew
        exact ⟨hst k _ _ _ (hfr.mono fun _ _ h => h.elim) q1, f, hf, hfk, .inr hfl⟩)
      rw [hsy] at this
      exact this
theorem relAnyT {tbl : List T3} (hb : base = slots ++ more) (hst : ∀ k v w w', Fr S w w' → Φ k v w → Φ k v w') (hSt : ∀ j w w', Fr (fun _ => False) w w' → St j w → St j w')
    (ht : ∀ e ∈ tbl, FactT P S St W0 base m Φ e) (hfz : ∀ f ∈ fr, FreshS P S St W0 base m Φ (stOf sts f.i) f.k f.s f.deps) (hnd : (fr.map (·.k)).Nodup) (hkm : ∀ f ∈ fr, f.k < m)
    (hch : chainT ops fr base.length syms sts = true)
    (hg : ∀ i o, ops[i]? = some o → goodT ops tbl fr sts base.length slots.length syms i o = true) {Q : Exit → Act → World → Prop}
    (hQ : ∀ listed a w, (∀ i, i < ops.length → listed.getD i false = true) → JR S ops fr W0 base m Φ slots defers syms listed a w → JS St sts listed w → Q .normal a w) :
    ∀ (fuel : Nat) (listed : Array Bool) (a : Act) (w : World), listed.size = ops.length → listed.toList.count false = fuel → JR S ops fr W0 base m Φ slots defers syms listed a w → JS St sts listed w → wpAny P .any ops.toArray Q fuel listed a w := by
  have hlow : ∀ i o, ops[i]? = some o → ∀ e ∈ o.after, Region.binds .any e = true → e.on < i := fun i o ho => (goodT_spec (hg i o ho)).2.1
  intro fuel
  induction fuel with
  | zero =>
    intro listed a w hls hc hJ hJS
    have hall : ∀ i, i < ops.length → listed.getD i false = true := fun i hi => by
      by_cases h : listed.getD i false = true
      · exact h
      · have := cnt_set (un2 (by omega) h); omega
    refine ⟨?_, hQ _ _ _ hall hJ hJS⟩
    rw [List.eq_nil_iff_forall_not_mem]
    intro i hi
    have h1 := (mem_ready.1 hi).1
    have h2 := cnt_set h1
    omega
  | succ fuel ih =>
    intro listed a w hls hc hJ hJS
    refine ⟨fun h => hQ _ _ _ (ready_none hls hlow h) hJ hJS, fun i hi => ?_⟩
    refine JT.step hb hst hSt ht hfz hnd hkm hch hg hls hJ hJS hi fun a' w' hJ' hJS' => ih _ a' w' ?_ ?_ hJ' hJS'
    · rw [Array.size_setIfInBounds]; exact hls
    · have := cnt_set (mem_ready.1 hi).1; omega
end
/-- **A region that draws its order, reckoned; with stores.** outs: slots, and what lies in them at the end. -/
theorem wp_region_t {id : Nat} {Q : Exit → Act → World → Prop} {slots : List Value} {defers : List Deferred} {w : World} {l : List Oper} (S : Nat → Prop) (St : Nat → World → Prop) (more : List Value) (m : Nat) (Φ : Nat → Value → World → Prop) (tbl : List T3) (fr : List Fz) (sts : List Nat)
    (hm : P.follows .mixedOrders = true) (hst : ∀ k v w w', Fr S w w' → Φ k v w → Φ k v w') (hSt : ∀ j w w', Fr (fun _ => False) w w' → St j w → St j w') (hS0 : St 0 w)
    (ht : ∀ e ∈ tbl, FactT P S St w (slots ++ more) m Φ e) (hfz : ∀ f ∈ fr, FreshS P S St w (slots ++ more) m Φ (stOf sts f.i) f.k f.s f.deps) (n N : Nat) (hn : slots.length = n) (hN : (slots ++ more).length = N) (outs : List (Nat × SV))
    (hr : (let syms := symsT l tbl fr N n l []; allT l tbl fr sts N n m syms && chainT l fr N syms sts && outs.all fun p => SV.eqb (outR l syms p.1) p.2 && decide (p.1 < n)) = true)
    (h : ∀ (x : ExtS S w) (t : Array Value) (φ : List Value), t.size = n → (∀ p ∈ outs, t.getD p.1 Go.undef = p.2.den (slots ++ more ++ φ)) → (∀ d, wrt l d = none → t[d]? = slots[d]?) → (∀ p ∈ outs, ∀ k, p.2 = .var (N + k) → Φ k (φ.getD k undef) x.w) → St sts.length x.w → Q .normal ⟨t, defers⟩ x.w) : (Code.region id l.toArray true).wp P Q ⟨slots.toArray, defers⟩ w := by
  subst hn hN
  simp only [Bool.and_eq_true, List.all_eq_true, decide_eq_true_eq] at hr
  obtain ⟨⟨hall, hch⟩, hu⟩ := hr
  generalize symsT l tbl fr (slots ++ more).length slots.length l [] = syms at *
  unfold allT at hall
  simp only [Bool.and_eq_true, decide_eq_true_eq, List.all_eq_true, List.mem_range] at hall
  obtain ⟨⟨hg, hnd⟩, hkm⟩ := hall
  have hg' : ∀ i o, l[i]? = some o → goodT l tbl fr sts (slots ++ more).length slots.length syms i o = true := fun i o ho => by
    have := hg i (List.getElem?_eq_some_iff.1 ho).1
    rw [ho] at this
    exact this
  refine wp_region_any hm (relAnyT (S := S) (St := St) (sts := sts) (ops := l) (fr := fr) (defers := defers) rfl hst hSt ht hfz hnd (fun f hf => by simpa using hkm f hf) hch hg' (fun listed a w' hl hJ hJS => ?_) _ _ _ _ (by simp) (by simp) ?_ ?_)
  · obtain ⟨⟨φ, hφ, hsz, hdf, h1, h2, clo, h3⟩, x, rfl⟩ := hJ
    obtain ⟨t, d⟩ := a
    simp only at hsz hdf h1 h2
    subst hdf
    refine h x t φ hsz (fun p hp => ?_) (fun d hd => ?_) (fun p hp k hk => ?_) ?_
    · rw [← SV.eqb_eq (hu p hp).1]
      have hs := (hu p hp).2
      unfold outR
      split
      · rename_i i hi
        have hlt := (List.findIdx?_eq_some_iff_getElem.1 hi)
        obtain ⟨hil, hd, _⟩ := hlt
        have := h2 i l[i] p.1 (List.getElem?_eq_getElem hil) (hl i hil) (by simpa using hd)
        rw [Array.getD_eq_getD_getElem?, this]; rfl
      · rename_i hi
        have := h1 p.1 hs fun j hj => by rw [hi] at hj; cases hj
        rw [Array.getD_eq_getD_getElem?, this, List.append_assoc]
        simp [SV.den, List.getElem?_append_left hs]
    · by_cases hlt : d < slots.length
      · exact h1 d hlt fun j hj => by rw [hd] at hj; cases hj
      · rw [Array.getElem?_eq_none (show t.size ≤ d from by rw [hsz]; exact Nat.le_of_not_lt hlt), List.getElem?_eq_none (Nat.le_of_not_lt hlt)]
    · have ho := (SV.eqb_eq (hu p hp).1).trans hk
      have hs := (hu p hp).2
      unfold outR at ho
      split at ho
      · rename_i i hi
        exact (h3 i k (hl i (List.findIdx?_eq_some_iff_getElem.1 hi).1) ho).1
      · have := SV.var.inj ho
        rw [List.length_append] at this
        omega
    · obtain ⟨j, hj, hSj, hc⟩ := hJS.ex
      by_cases he : j = sts.length
      · rw [← he]; exact hSj
      · exfalso
        have hjl : j < sts.length := by omega
        obtain ⟨o, ho, _⟩ := chainT_spec hch hjl
        have := (hc j hjl).1 (hl _ (List.getElem?_eq_some_iff.1 ho).1)
        omega
  · have hno : ∀ i, (Array.replicate l.toArray.size false).getD i false = false := fun i => by
      rw [Array.getD_eq_getD_getElem?, Array.getElem?_replicate]; split <;> rfl
    refine ⟨⟨List.replicate m undef, by simp, by simp, rfl, fun t ht _ => by simp, ?_, ?_, ?_⟩, ⟨⟨_, Fr.drew _ _⟩, rfl⟩⟩
    · intro i o d _ hl; rw [hno] at hl; cases hl
    · intro i o _ hl; rw [hno] at hl; cases hl
    · intro i k hl; rw [hno] at hl; cases hl
  · refine ⟨0, Nat.zero_le _, hSt 0 _ _ (Fr.drew _ _) hS0, fun i _ => ⟨fun h => ?_, fun h => by omega⟩⟩
    rw [Array.getD_eq_getD_getElem?, Array.getElem?_replicate] at h
    split at h <;> cases h
theorem allFT_nil : ∀ e ∈ ([] : List T3), FactT P S St W0 base m Φ e := by simp
theorem allFT_cons {t : T3} {l : List T3} (h : FactT P S St W0 base m Φ t) (hl : ∀ e ∈ l, FactT P S St W0 base m Φ e) : ∀ e ∈ t :: l, FactT P S St W0 base m Φ e := by
  intro e he
  rcases List.mem_cons.1 he with rfl | he
  · exact h
  · exact hl e he
/-- An element's address. -/
theorem FactR.addr {t : TypeId} {p i v : SV} (h : ∀ (φ : List Value) (w : World), (Instr.indexAt t (p.den (base ++ φ)) (i.den (base ++ φ))).run P w = .ok (v.den (base ++ φ)) w) : FactR P W0 base m Φ ([5, t], [p, i]) v [] := by
  intro φ _ z _ ev a o hev hs
  have hs := sopR_of hs (by simp)
  unfold sopOf at hs
  split at hs
  · exact absurd (mk1_some hs).1 (by simp)
  · split at hs <;> cases hs
  · exact absurd (mk2_some hs).1 (by simp)
  · exact absurd (mk1_some hs).1 (by simp)
  · rename_i t' y1 y2 ho
    obtain ⟨e, u, v, hu, hv, he⟩ := mk2_some hs
    simp only [List.cons.injEq, and_true, true_and] at e he
    subst e
    obtain ⟨rfl, rfl⟩ := he
    refine quietAt_pure ?_
    simp only [execOp, ho, hev _ _ hu, hev _ _ hv]
    rw [Sem.run_bind, h φ z.w]
    rfl
  all_goals first
    | exact absurd (mk1_some hs).1 (by simp)
    | exact absurd (mk2_some hs).1 (by simp)
    | cases hs
theorem FactR.nilc {p : SV} (h : ∀ φ : List Value, ∃ a, p.den (base ++ φ) = .pointer (some a)) : FactR P W0 base m Φ ([10], [p]) p [] := by
  intro φ _ z _ ev a o hev hs
  unfold sopR at hs
  split at hs
  · split at hs <;> cases hs
  · exact absurd (mk2_some hs).1 (by simp)
  · rename_i y ho
    obtain ⟨e, u, hu, he⟩ := mk1_some hs
    simp only [List.cons.injEq, and_true] at he
    subst he
    obtain ⟨ad, had⟩ := h φ
    refine quietAt_pure ?_
    simp [execOp, ho, hev _ _ hu, had]
  · exact absurd (mk1_some hs).1 (by simp)
  · have hs := sopOf2_of hs (by simp)
    unfold sopOf at hs
    split at hs
    all_goals first
      | exact absurd (mk1_some hs).1 (by simp)
      | exact absurd (mk2_some hs).1 (by simp)
      | (split at hs <;> cases hs)
      | cases hs
theorem FactR.extr {p v : SV} {i : Nat} {deps : List Nat} (h : ∀ (φ : List Value) (x : ExtW W0), (∀ k ∈ deps, Φ k (φ.getD k undef) x.w) → (Instr.extract (p.den (base ++ φ)) i).run P x.w = .ok (v.den (base ++ φ)) x.w) : FactR P W0 base m Φ ([11, i], [p]) v deps := by
  intro φ _ z hd ev a o hev hs
  unfold sopR at hs
  split at hs
  · split at hs <;> cases hs
  · exact absurd (mk2_some hs).1 (by simp)
  · exact absurd (mk1_some hs).1 (by simp)
  · rename_i y i' ho
    obtain ⟨e, u, hu, he⟩ := mk1_some hs
    simp only [List.cons.injEq, and_true, true_and] at e he
    subst he e
    refine quietAt_pure ?_
    simp only [execOp, ho, hev _ _ hu]
    rw [Sem.run_bind, h φ z hd]
    rfl
  · have hs := sopOf2_of hs (by simp)
    unfold sopOf at hs
    split at hs
    all_goals first
      | exact absurd (mk1_some hs).1 (by simp)
      | exact absurd (mk2_some hs).1 (by simp)
      | (split at hs <;> cases hs)
      | cases hs
/-- A store, as the j-th of the steps that change things. -/
theorem FreshS.store {t : TypeId} {p y : SV} {j k : Nat} {deps : List Nat}
    (h : ∀ (φ : List Value) (x : ExtS S W0), (∀ k ∈ deps, Φ k (φ.getD k undef) x.w) → St j x.w → ∃ w', (Instr.storeAt t (p.den (base ++ φ)) (y.den (base ++ φ))).run P x.w = .ok () w' ∧ Fr S x.w w' ∧ St (j + 1) w' ∧ ∀ v, Φ k v w') : FreshS P S St W0 base m Φ (some j) k ([9, t], [p, y]) deps := by
  intro φ _ z hd hS ev a o hev hs K Q hK
  unfold sopR at hs
  split at hs
  · split at hs <;> cases hs
  · rename_i t' y1 y2 ho
    obtain ⟨e, u, v, hu, hv, he⟩ := mk2_some hs
    simp only [List.cons.injEq, and_true, true_and] at e he
    subst e
    obtain ⟨rfl, rfl⟩ := he
    obtain ⟨w', hr, hf, hS', hΦ⟩ := h φ z hd (hS j rfl)
    unfold Oper.wp
    simp only [execOp, ho, hev _ _ hu, hev _ _ hv, Sem.run_bind, hr, Result.andThen_ok, Sem.run_pure, Oper.upon]
    exact hK _ w' (fun h => by cases h) hf (fun i hi => by cases hi; exact hS') (hΦ _)
  · exact absurd (mk1_some hs).1 (by simp)
  · exact absurd (mk1_some hs).1 (by simp)
  · have hs := sopOf2_of hs (by simp)
    unfold sopOf at hs
    split at hs
    all_goals first
      | exact absurd (mk1_some hs).1 (by simp)
      | exact absurd (mk2_some hs).1 (by simp)
      | (split at hs <;> cases hs)
      | cases hs
end
end Go.Bx
