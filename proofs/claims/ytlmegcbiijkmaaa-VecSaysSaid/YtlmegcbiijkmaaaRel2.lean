/- The same where some steps change what lay there before (a reader that reads on): the steps that do so come up in one order ('sts': their numbers), and what they leave is told by how many have come up ('St'). No condition. -/
import Derived.Test.YtlmegcbiijkmaaaRel
namespace Go.Bx
open Go Go.RowKit
section
variable {P : Program} {W0 : World} {base : List Value} {m : Nat} {Φ : Nat → Value → World → Prop} {S : Nat → Prop} {St : Nat → World → Prop}
def FactS (P : Program) (S : Nat → Prop) (W0 : World) (base : List Value) (m : Nat) (Φ : Nat → Value → World → Prop) (s : SOp) (v : SV) (deps : List Nat) : Prop :=
  ∀ (φ : List Value), φ.length = m → ∀ x : ExtS S W0, (∀ k ∈ deps, Φ k (φ.getD k undef) x.w) → ∀ (ev : Operand → Option SV) (a : Act) (o : Oper), (∀ y u, ev y = some u → a.eval y = u.den (base ++ φ)) → sopR ev o.op = some s →
    o.quietAt P a (fun w' => Fr (fun _ => False) x.w w') x.w (v.den (base ++ φ))
/-- A step that makes a value of its own; j: it is the j-th of those that change what was there. -/
def FreshS (P : Program) (S : Nat → Prop) (St : Nat → World → Prop) (W0 : World) (base : List Value) (m : Nat) (Φ : Nat → Value → World → Prop) (j : Option Nat) (k : Nat) (s : SOp) (deps : List Nat) : Prop :=
  ∀ (φ : List Value), φ.length = m → ∀ x : ExtS S W0, (∀ k ∈ deps, Φ k (φ.getD k undef) x.w) → (∀ i, j = some i → St i x.w) → ∀ (ev : Operand → Option SV) (a : Act) (o : Oper), (∀ y u, ev y = some u → a.eval y = u.den (base ++ φ)) → sopR ev o.op = some s →
    ∀ (K : Act → World → Prop) (Q : Exit → Act → World → Prop), (∀ v w', (j = none → Fr (fun _ => False) x.w w') → Fr S x.w w' → (∀ i, j = some i → St (i + 1) w') → Φ k v w' → K (a.put o.dst v) w') → o.wp P a x.w K Q
theorem FactS.of {s : SOp} {v : SV} {deps : List Nat} (h : ∀ x : ExtS S W0, FactR P x.w base m Φ s v deps) : FactS P S W0 base m Φ s v deps := fun φ hφ x hd ev a o hev hs => h x φ hφ ⟨x.w, Fr.refl _ _⟩ hd ev a o hev hs
theorem FreshS.of {k : Nat} {s : SOp} {deps : List Nat} (h : ∀ x : ExtS S W0, FreshR P x.w base m Φ k s deps) : FreshS P S St W0 base m Φ none k s deps := fun φ hφ x hd _ ev a o hev hs K Q hK =>
  h x φ hφ ⟨x.w, Fr.refl _ _⟩ hd ev a o hev hs K Q fun v w' hfr hΦ => hK v w' (fun _ => hfr) (hfr.mono fun _ _ h => h.elim) (fun _ h => by cases h) hΦ
theorem FreshS.call {f : FuncId} {args : List SV} {j k : Nat} {deps : List Nat} (hfn : IsFn P f)
    (h : ∀ (φ : List Value) (x : ExtS S W0), (∀ k ∈ deps, Φ k (φ.getD k undef) x.w) → St j x.w → Calls P f (args.map (SV.den (base ++ φ))).toArray x.w fun e w' => ∃ v, e = .returned v ∧ Fr S x.w w' ∧ St (j + 1) w' ∧ Φ k v w') : FreshS P S St W0 base m Φ (some j) k ([1, f], args) deps := by
  intro φ _ x hd hS ev a o hev hs K Q hK
  unfold Oper.wp
  rw [callR hfn hev hs x.w]
  exact (h φ x hd (hS j rfl)).mono fun e w' ⟨v, he, hfr, hS', hΦ⟩ => by subst he; exact hK v w' (fun h => by cases h) hfr (fun i hi => by cases hi; exact hS') hΦ
theorem stepS_den {tbl : List (SOp × SV × List Nat)} (ht : ∀ e ∈ tbl, FactS P S W0 base m Φ e.1 e.2.1 e.2.2) {φ : List Value} (hφ : φ.length = m) (x : ExtS S W0) {ev : Operand → Option SV} {a : Act} {o : Oper}
    (hev : ∀ y u, ev y = some u → a.eval y = u.den (base ++ φ)) {u : SV} {deps : List Nat} (h : stepR ev tbl o.op = some (u, deps)) (hd : ∀ k ∈ deps, Φ k (φ.getD k undef) x.w) :
    o.quietAt P a (fun w' => Fr (fun _ => False) x.w w') x.w (u.den (base ++ φ)) := by
  unfold stepR at h
  split at h
  · rename_i y hop
    obtain ⟨u', hu, he⟩ := Option.map_eq_some_iff.1 h
    cases he
    exact quietAt_pure (by rw [BigFrame.run_move y hop, hev _ _ hu])
  · rename_i y hop
    obtain ⟨u', hu, he⟩ := Option.map_eq_some_iff.1 h
    cases he
    exact quietAt_pure (by rw [BigFrame.run_assign y hop, hev _ _ hu])
  · rename_i c y z hop
    split at h
    · rename_i b hc
      have e : a.eval c = .bool b := hev _ _ hc
      obtain ⟨u', hu, he⟩ := Option.map_eq_some_iff.1 h
      cases he
      refine quietAt_pure ?_
      cases b
      · simp only [Bool.false_eq_true, if_false] at hu
        simp [execOp, hop, e, asBool, hev _ _ hu]
      · simp only [if_true] at hu
        simp [execOp, hop, e, asBool, hev _ _ hu]
    · cases h
  · rename_i t y hop
    split at h
    · rename_i b hc
      cases h
      have e := hev _ _ hc
      exact quietAt_pure (by simp [execOp, hop, e, SV.den, Op.unary])
    · cases h
  · split at h
    · rename_i s hs
      split at h
      · rename_i e he
        have h1 := List.find?_some he
        have h2 := List.mem_of_find?_eq_some he
        have h3 := sopEqb_eq h1
        obtain ⟨e1, e2, e3⟩ := e
        cases h
        exact ht _ h2 φ hφ x hd ev a o hev (by rw [h3]; exact hs)
      · cases h
    · cases h
/-- Where the steps that change things stand. -/
def stOf (sts : List Nat) (i : Nat) : Option Nat := sts.findIdx? (· == i)
/-- Behind another step, at however many removes. -/
def behind (ops : List Oper) (j : Nat) : Nat → Oper → Bool
  | 0, _ => false
  | n + 1, o => o.after.any fun e => Region.binds .any e && (e.on == j || (match ops[e.on]? with | some o' => behind ops j n o' | none => false))
theorem behind_listed {ops : List Oper} {listed : Array Bool} {j : Nat} (clo : ∀ i o, ops[i]? = some o → listed.getD i false = true → ∀ e ∈ o.after, Region.binds .any e = true → listed.getD e.on false = true) :
    ∀ (n : Nat) (o : Oper), (∀ e ∈ o.after, Region.binds .any e = true → listed.getD e.on false = true) → behind ops j n o = true → listed.getD j false = true
  | 0, _, _, h => by cases h
  | n + 1, o, haf, h => by
    unfold behind at h
    rw [Array.any_eq_true] at h
    obtain ⟨k, hk, hb⟩ := h
    simp only [Bool.and_eq_true, Bool.or_eq_true, beq_iff_eq] at hb
    have hl := haf _ (Array.getElem_mem hk) hb.1
    rcases hb.2 with h2 | h2
    · rw [← h2]; exact hl
    · split at h2
      · rename_i o' ho'
        exact behind_listed clo n o' (clo _ o' ho' hl) h2
      · cases h2
/-- They come up one behind the other, and none is passed over. -/
def chainR (ops : List Oper) (fr : List Fz) (N : Nat) (syms : List SV) (sts : List Nat) : Bool :=
  (List.range sts.length).all fun j => match ops[sts.getD j 0]? with
    | some o => (j == 0 || behind ops (sts.getD (j - 1) 0) 9 o) && (match fr.find? (fun f => f.i == sts.getD j 0) with | some f => SV.eqb (syms.getD (sts.getD j 0) .undef) (.var (N + f.k)) | none => false) && stOf sts (sts.getD j 0) == some j
    | none => false
structure JS (St : Nat → World → Prop) (sts : List Nat) (listed : Array Bool) (w : World) : Prop where
  ex : ∃ j, j ≤ sts.length ∧ St j w ∧ ∀ i, i < sts.length → (listed.getD (sts.getD i 0) false = true ↔ i < j)
section
variable {ops : List Oper} {fr : List Fz} {slots more : List Value} {defers : List Deferred} {syms : List SV} {sts : List Nat}
theorem chainR_spec {N : Nat} (h : chainR ops fr N syms sts = true) {j : Nat} (hj : j < sts.length) :
    ∃ o, ops[sts.getD j 0]? = some o ∧ (0 < j → behind ops (sts.getD (j - 1) 0) 9 o = true) ∧ (∃ k, syms.getD (sts.getD j 0) .undef = .var (N + k)) ∧ stOf sts (sts.getD j 0) = some j := by
  unfold chainR at h
  rw [List.all_eq_true] at h
  have := h j (List.mem_range.2 hj)
  split at this
  · rename_i o ho
    simp only [Bool.and_eq_true, Bool.or_eq_true, beq_iff_eq] at this
    obtain ⟨⟨h1, h2⟩, h3⟩ := this
    refine ⟨o, ho, fun h0 => ?_, ?_, h3⟩
    · rcases h1 with h1 | h1
      · omega
      · exact h1
    · split at h2
      · rename_i f _; exact ⟨f.k, SV.eqb_eq h2⟩
      · cases h2
  · cases this
theorem stOf_spec {i j : Nat} (h : stOf sts i = some j) : j < sts.length ∧ sts.getD j 0 = i := by
  obtain ⟨hj, he, _⟩ := List.findIdx?_eq_some_iff_getElem.1 h
  exact ⟨hj, by simpa [List.getD_eq_getElem?_getD, List.getElem?_eq_getElem hj] using he⟩
theorem JS.step {tbl : List (SOp × SV × List Nat)} (hb : base = slots ++ more) (hst : ∀ k v w w', Fr S w w' → Φ k v w → Φ k v w') (hSt : ∀ j w w', Fr (fun _ => False) w w' → St j w → St j w')
    (ht : ∀ e ∈ tbl, FactS P S W0 base m Φ e.1 e.2.1 e.2.2) (hfz : ∀ f ∈ fr, FreshS P S St W0 base m Φ (stOf sts f.i) f.k f.s f.deps) (hnd : (fr.map (·.k)).Nodup) (hkm : ∀ f ∈ fr, f.k < m)
    (hch : chainR ops fr base.length syms sts = true)
    (hg : ∀ i o, ops[i]? = some o → goodR ops tbl fr base.length slots.length syms i o = true)
    {listed : Array Bool} (hls : listed.size = ops.length) {a : Act} {w : World} (hJ : JR S ops fr W0 base m Φ slots defers syms listed a w) (hJS : JS St sts listed w) {i : Nat} (hi : i ∈ Region.ready .any ops.toArray listed)
    {K : Act → World → Prop} {Q : Exit → Act → World → Prop} (hK : ∀ a' w', JR S ops fr W0 base m Φ slots defers syms (listed.setIfInBounds i true) a' w' → JS St sts (listed.setIfInBounds i true) w' → K a' w') : wpOp P ops.toArray Q i K a w := by
  obtain ⟨hun, o, ho, haf⟩ := mem_ready.1 hi
  have ho' : ops[i]? = some o := by simpa using ho
  obtain ⟨⟨φ, hφ, hsz, hdf, h1, h2, clo, h3⟩, hcl⟩ := id hJ
  obtain ⟨⟨d, hd, hw, hdn⟩, _, hcase⟩ := goodR_spec (hg i o ho')
  have hdst : ∀ j oj, ops[j]? = some oj → oj.dst = some d → j = i := by
    intro j oj hj hjd
    obtain ⟨⟨d', hd', hw', _⟩, _⟩ := goodR_spec (hg j oj hj)
    rw [hjd] at hd'
    cases hd'
    rw [hw] at hw'
    exact (Option.some.inj hw').symm
  have hil : i < listed.size := by rw [hls]; exact (List.getElem?_eq_some_iff.1 ho').1
  obtain ⟨x, rfl⟩ := hcl
  have hev : ∀ y u, evR slots.length ops syms i o y = some u → a.eval y = u.den (base ++ φ) := fun y u h => evR_den hb h1 h2 clo hls hun haf h
  have hdep : ∀ k, depR ops.length base.length syms o k = true → Φ k (φ.getD k undef) x.w ∧ ∃ f ∈ fr, f.k = k ∧ listed.getD f.i false = true := fun k hk => by
    obtain ⟨j, hj1, hj2⟩ := depR_spec hk
    exact h3 j k (aft_listed haf hj1) hj2
  obtain ⟨jj, hjj, hSj, hcnt⟩ := id hJS.ex
  -- a step that is none of those keeps the count
  have keepS : ∀ w', stOf sts i = none → St jj w' → JS St sts (listed.setIfInBounds i true) w' := fun w' hn hS => ⟨jj, hjj, hS, fun q hq => by
    have hne : sts.getD q 0 ≠ i := fun e => by
      have := List.findIdx?_eq_none_iff.1 hn (sts.getD q 0) (by rw [List.getD_eq_getElem?_getD, List.getElem?_eq_getElem hq]; exact List.getElem_mem hq)
      rw [e] at this
      simp at this
    rw [set_get, if_neg (fun h => hne h.1)]
    exact hcnt q hq⟩
  have undefNo : stOf sts i = none ∨ ∃ k, syms.getD i .undef = .var (base.length + k) := by
    cases hs : stOf sts i with
    | none => exact .inl rfl
    | some j =>
      obtain ⟨hj, he⟩ := stOf_spec hs
      obtain ⟨_, _, _, hk, _⟩ := chainR_spec hch hj
      rw [he] at hk
      exact .inr hk
  unfold wpOp
  simp only [ho]
  rcases hcase with ⟨hwant, hsy⟩ | ⟨hwant, hcase⟩
  · rw [wantR_den h2 haf hwant]
    simp only [Bool.false_eq_true, if_false]
    have hn : stOf sts i = none := by
      rcases undefNo with h | ⟨k, hk⟩
      · exact h
      · rw [hsy] at hk; cases hk
    refine hK _ _ ?_ (keepS _ hn hSj)
    have := JR.next (Φ := Φ) hls hst hφ hsz hdf h1 h2 clo h3 ⟨x, rfl⟩ ho' hun haf hd hw hdn hdst (fun _ _ => rfl) (fun _ _ _ _ => rfl) (Fr.refl _ x.w) (fun k hk => by rw [hsy] at hk; cases hk)
    rw [hsy] at this
    exact this
  · rw [wantR_den h2 haf hwant]
    simp only [if_true]
    refine .inl ?_
    rcases hcase with ⟨f, hf, hfi, hsop, hsy, hdeps⟩ | ⟨u, deps, hnone, hstep, hsy, hdeps, hnew⟩
    · have hnow : ∀ q, stOf sts f.i = some q → q = jj := fun q hq => by
        obtain ⟨hql, hqe⟩ := stOf_spec hq
        rw [hfi] at hqe
        have hlow : ¬ q < jj := fun h => by
          have := (hcnt q hql).2 h
          rw [hqe, unl hun] at this; cases this
        obtain ⟨o2, ho2, hch2, _, _⟩ := chainR_spec hch hql
        rw [hqe, ho'] at ho2
        cases ho2
        by_cases h0 : 0 < q
        · have := (hcnt (q - 1) (by omega)).1 (behind_listed clo 9 o haf (hch2 h0)); omega
        · omega
      refine hfz f hf φ hφ x (fun k hk => (hdep k (hdeps k hk)).1) (fun q hq => by rw [hnow q hq]; exact hSj) _ a o hev hsop K Q fun v w' hfr0 hfr hS' hΦ => hK _ _ ?_ ?_
      · have hget : (φ.set f.k v).getD f.k undef = v := by
          rw [List.getD_eq_getElem?_getD, List.getElem?_set_self (by rw [hφ]; exact hkm f hf)]; rfl
        have hoth : ∀ k, k ≠ f.k → (φ.set f.k v).getD k undef = φ.getD k undef := fun k hk => by
          rw [List.getD_eq_getElem?_getD, List.getElem?_set_ne (Ne.symm hk), ← List.getD_eq_getElem?_getD]
        have hfar : ∀ j k, listed.getD j false = true → syms.getD j .undef = .var (base.length + k) → k ≠ f.k := fun j k hj hk e => by
          obtain ⟨_, f', hf', hk', hl'⟩ := h3 j k hj hk
          have := nodup_k hnd hf' hf (hk'.trans e)
          subst this
          rw [hfi, unl hun] at hl'; cases hl'
        have hden : ∀ j, listed.getD j false = true → (syms.getD j .undef).den (base ++ φ.set f.k v) = (syms.getD j .undef).den (base ++ φ) := fun j hj => by
          cases hs : syms.getD j .undef with
          | var n =>
            by_cases hn : n < base.length
            · rw [den_base hn, den_base hn]
            · obtain ⟨k, rfl⟩ : ∃ k, n = base.length + k := ⟨n - base.length, by omega⟩
              rw [den_new, den_new, hoth k (hfar j k hj hs)]
          | _ => rfl
        have := JR.next (m := m) (Φ := Φ) (φ' := φ.set f.k v) hls hst (by rw [List.length_set]; exact hφ) hsz hdf h1 h2 clo h3 ⟨x, rfl⟩ ho' hun haf hd hw hdn hdst hden (fun j k hj hk => hoth k (hfar j k hj hk)) hfr (fun k hk => by
          rw [hsy] at hk
          have hkf : f.k = k := by have := SV.var.inj hk; omega
          subst hkf
          exact ⟨by rw [hget]; exact hΦ, f, hf, rfl, .inl hfi⟩)
        rw [hsy, den_new, hget] at this
        exact this
      · cases hs : stOf sts f.i with
        | none => exact keepS _ (by rw [← hfi]; exact hs) (hSt jj _ _ (hfr0 hs) hSj)
        | some q =>
          have hq := hnow q hs
          subst hq
          obtain ⟨hql, hqe⟩ := stOf_spec hs
          refine ⟨q + 1, by omega, hS' q hs, fun p hp => ?_⟩
          rw [set_get]
          by_cases hpq : p = q
          · subst hpq
            rw [if_pos ⟨by rw [hqe, hfi], hil⟩]
            simp
          · have hne : sts.getD p 0 ≠ i := fun e => by
              obtain ⟨_, _, _, _, hs2⟩ := chainR_spec hch hp
              obtain ⟨_, _, _, _, hs3⟩ := chainR_spec hch hql
              rw [e] at hs2
              rw [hqe, hfi] at hs3
              rw [hs2] at hs3
              exact hpq (Option.some.inj hs3)
            rw [if_neg (fun h => hne h.1), hcnt p hp]
            omega
    · have hn : stOf sts i = none := by
        cases hs : stOf sts i with
        | none => rfl
        | some j =>
          exfalso
          obtain ⟨hj, he⟩ := stOf_spec hs
          unfold chainR at hch
          rw [List.all_eq_true] at hch
          have := hch j (List.mem_range.2 hj)
          rw [he, ho', hnone] at this
          simp at this
      refine wp_of_quietAt (stepS_den ht hφ x hev hstep fun k hk => (hdep k (hdeps k hk)).1) (Fr.refl _ _) fun w' hfr => hK _ _ ?_ (keepS _ hn (hSt jj _ _ hfr hSj))
      have := JR.next (Φ := Φ) hls hst hφ hsz hdf h1 h2 clo h3 ⟨x, rfl⟩ ho' hun haf hd hw hdn hdst (fun _ _ => rfl) (fun _ _ _ _ => rfl) (hfr.mono fun _ _ h => h.elim) (fun k hk => by
        rw [hsy] at hk
        subst hk
        simp only [newR] at hnew
        rw [if_pos (Nat.le_add_right _ _), Nat.add_sub_cancel_left] at hnew
        obtain ⟨q1, f, hf, hfk, hfl⟩ := hdep k hnew
        exact ⟨hst k _ _ _ (hfr.mono fun _ _ h => h.elim) q1, f, hf, hfk, .inr hfl⟩)
      rw [hsy] at this
      exact this
theorem relAnyS {tbl : List (SOp × SV × List Nat)} (hb : base = slots ++ more) (hst : ∀ k v w w', Fr S w w' → Φ k v w → Φ k v w') (hSt : ∀ j w w', Fr (fun _ => False) w w' → St j w → St j w')
    (ht : ∀ e ∈ tbl, FactS P S W0 base m Φ e.1 e.2.1 e.2.2) (hfz : ∀ f ∈ fr, FreshS P S St W0 base m Φ (stOf sts f.i) f.k f.s f.deps) (hnd : (fr.map (·.k)).Nodup) (hkm : ∀ f ∈ fr, f.k < m)
    (hch : chainR ops fr base.length syms sts = true)
    (hg : ∀ i o, ops[i]? = some o → goodR ops tbl fr base.length slots.length syms i o = true) {Q : Exit → Act → World → Prop}
    (hQ : ∀ listed a w, (∀ i, i < ops.length → listed.getD i false = true) → JR S ops fr W0 base m Φ slots defers syms listed a w → JS St sts listed w → Q .normal a w) :
    ∀ (fuel : Nat) (listed : Array Bool) (a : Act) (w : World), listed.size = ops.length → listed.toList.count false = fuel → JR S ops fr W0 base m Φ slots defers syms listed a w → JS St sts listed w → wpAny P .any ops.toArray Q fuel listed a w := by
  have hlow : ∀ i o, ops[i]? = some o → ∀ e ∈ o.after, Region.binds .any e = true → e.on < i := fun i o ho => (goodR_spec (hg i o ho)).2.1
  intro fuel
  induction fuel with
  | zero =>
    intro listed a w hls hc hJ hJS
    have hall : ∀ i, i < ops.length → listed.getD i false = true := fun i hi => by
      by_cases h : listed.getD i false = true
      · exact h
      · have := cnt_set (un2 (by omega) h); omega
    refine ⟨?_, hQ _ _ _ hall hJ hJS⟩
    rw [List.eq_nil_iff_forall_not_mem]
    intro i hi
    have h1 := (mem_ready.1 hi).1
    have h2 := cnt_set h1
    omega
  | succ fuel ih =>
    intro listed a w hls hc hJ hJS
    refine ⟨fun h => hQ _ _ _ (ready_none hls hlow h) hJ hJS, fun i hi => ?_⟩
    refine JS.step hb hst hSt ht hfz hnd hkm hch hg hls hJ hJS hi fun a' w' hJ' hJS' => ih _ a' w' ?_ ?_ hJ' hJS'
    · rw [Array.size_setIfInBounds]; exact hls
    · have := cnt_set (mem_ready.1 hi).1; omega
end
/-- **A region that draws its order, reckoned; some of its steps make values of their own, some change what was there, one behind the other.** -/
theorem wp_region_st {id : Nat} {Q : Exit → Act → World → Prop} {slots : List Value} {defers : List Deferred} {w : World} {l : List Oper} (S : Nat → Prop) (St : Nat → World → Prop) (more : List Value) (m : Nat) (Φ : Nat → Value → World → Prop) (tbl : List (SOp × SV × List Nat)) (fr : List Fz) (sts : List Nat)
    (hm : P.follows .mixedOrders = true) (hst : ∀ k v w w', Fr S w w' → Φ k v w → Φ k v w') (hSt : ∀ j w w', Fr (fun _ => False) w w' → St j w → St j w') (hS0 : St 0 w)
    (ht : ∀ e ∈ tbl, FactS P S w (slots ++ more) m Φ e.1 e.2.1 e.2.2) (hfz : ∀ f ∈ fr, FreshS P S St w (slots ++ more) m Φ (stOf sts f.i) f.k f.s f.deps) (n N : Nat) (hn : slots.length = n) (hN : (slots ++ more).length = N) (s : Nat) (u : SV)
    (hr : (let syms := symsR l tbl fr N n l []; allR l tbl fr N n m syms && chainR l fr N syms sts && SV.eqb (outR l syms s) u && decide (s < n)) = true)
    (h : ∀ (x : ExtS S w) (t : Array Value) (φ : List Value), t.size = n → t.getD s Go.undef = u.den (slots ++ more ++ φ) → (∀ d, wrt l d = none → t[d]? = slots[d]?) → (∀ k, u = .var (N + k) → Φ k (φ.getD k undef) x.w) → St sts.length x.w → Q .normal ⟨t, defers⟩ x.w) : (Code.region id l.toArray true).wp P Q ⟨slots.toArray, defers⟩ w := by
  subst hn hN
  simp only [Bool.and_eq_true, decide_eq_true_eq] at hr
  obtain ⟨⟨⟨hall, hch⟩, hu⟩, hs⟩ := hr
  generalize symsR l tbl fr (slots ++ more).length slots.length l [] = syms at *
  unfold allR at hall
  simp only [Bool.and_eq_true, decide_eq_true_eq, List.all_eq_true, List.mem_range] at hall
  obtain ⟨⟨hg, hnd⟩, hkm⟩ := hall
  have hg' : ∀ i o, l[i]? = some o → goodR l tbl fr (slots ++ more).length slots.length syms i o = true := fun i o ho => by
    have := hg i (List.getElem?_eq_some_iff.1 ho).1
    rw [ho] at this
    exact this
  refine wp_region_any hm (relAnyS (S := S) (St := St) (sts := sts) (ops := l) (fr := fr) (defers := defers) rfl hst hSt ht hfz hnd (fun f hf => by simpa using hkm f hf) hch hg' (fun listed a w' hl hJ hJS => ?_) _ _ _ _ (by simp) (by simp) ?_ ?_)
  · obtain ⟨⟨φ, hφ, hsz, hdf, h1, h2, clo, h3⟩, x, rfl⟩ := hJ
    obtain ⟨t, d⟩ := a
    simp only at hsz hdf h1 h2
    subst hdf
    refine h x t φ hsz ?_ (fun d hd => ?_) (fun k hk => ?_) ?_
    · rw [← SV.eqb_eq hu]
      unfold outR
      split
      · rename_i i hi
        have hlt := (List.findIdx?_eq_some_iff_getElem.1 hi)
        obtain ⟨hil, hd, _⟩ := hlt
        have := h2 i l[i] s (List.getElem?_eq_getElem hil) (hl i hil) (by simpa using hd)
        rw [Array.getD_eq_getD_getElem?, this]; rfl
      · rename_i hi
        have := h1 s hs fun j hj => by rw [hi] at hj; cases hj
        rw [Array.getD_eq_getD_getElem?, this, List.append_assoc]
        simp [SV.den, List.getElem?_append_left hs]
    · by_cases hlt : d < slots.length
      · exact h1 d hlt fun j hj => by rw [hd] at hj; cases hj
      · rw [Array.getElem?_eq_none (show t.size ≤ d from by rw [hsz]; exact Nat.le_of_not_lt hlt), List.getElem?_eq_none (Nat.le_of_not_lt hlt)]
    · have ho := (SV.eqb_eq hu).trans hk
      unfold outR at ho
      split at ho
      · rename_i i hi
        exact (h3 i k (hl i (List.findIdx?_eq_some_iff_getElem.1 hi).1) ho).1
      · have := SV.var.inj ho
        rw [List.length_append] at this
        omega
    · obtain ⟨j, hj, hSj, hc⟩ := hJS.ex
      by_cases he : j = sts.length
      · rw [← he]; exact hSj
      · exfalso
        have hjl : j < sts.length := by omega
        obtain ⟨o, ho, _, _, _⟩ := chainR_spec hch hjl
        have := (hc j hjl).1 (hl _ (List.getElem?_eq_some_iff.1 ho).1)
        omega
  · have hno : ∀ i, (Array.replicate l.toArray.size false).getD i false = false := fun i => by
      rw [Array.getD_eq_getD_getElem?, Array.getElem?_replicate]; split <;> rfl
    refine ⟨⟨List.replicate m undef, by simp, by simp, rfl, fun t ht _ => by simp, ?_, ?_, ?_⟩, ⟨⟨_, Fr.drew _ _⟩, rfl⟩⟩
    · intro i o d _ hl; rw [hno] at hl; cases hl
    · intro i o _ hl; rw [hno] at hl; cases hl
    · intro i k hl; rw [hno] at hl; cases hl
  · refine ⟨0, Nat.zero_le _, hSt 0 _ _ (Fr.drew _ _) hS0, fun i _ => ⟨fun h => ?_, fun h => by omega⟩⟩
    rw [Array.getD_eq_getD_getElem?, Array.getElem?_replicate] at h
    split at h <;> cases h
theorem allFS_nil : ∀ e ∈ ([] : List (SOp × SV × List Nat)), FactS P S W0 base m Φ e.1 e.2.1 e.2.2 := by simp
theorem allFS_cons {s : SOp} {v : SV} {d : List Nat} {l : List (SOp × SV × List Nat)} (h : FactS P S W0 base m Φ s v d) (hl : ∀ e ∈ l, FactS P S W0 base m Φ e.1 e.2.1 e.2.2) : ∀ e ∈ (s, v, d) :: l, FactS P S W0 base m Φ e.1 e.2.1 e.2.2 := by
  intro e he
  rcases List.mem_cons.1 he with rfl | he
  · exact h
  · exact hl e he
theorem allZS_nil {sts : List Nat} : ∀ f ∈ ([] : List Fz), FreshS P S St W0 base m Φ (stOf sts f.i) f.k f.s f.deps := by simp
theorem allZS_cons {sts : List Nat} {f : Fz} {l : List Fz} {j : Option Nat} (hj : stOf sts f.i = j) (h : FreshS P S St W0 base m Φ j f.k f.s f.deps) (hl : ∀ f ∈ l, FreshS P S St W0 base m Φ (stOf sts f.i) f.k f.s f.deps) : ∀ g ∈ f :: l, FreshS P S St W0 base m Φ (stOf sts g.i) g.k g.s g.deps := by
  intro e he
  rcases List.mem_cons.1 he with rfl | he
  · rw [hj]; exact h
  · exact hl e he
end
end Go.Bx
