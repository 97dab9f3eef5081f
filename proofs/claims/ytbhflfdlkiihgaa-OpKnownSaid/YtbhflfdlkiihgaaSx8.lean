/- Regions in the order of the text, over names. No condition. -/
import Derived.Test.YtbhflfdlkiihgaaSx7
namespace Go.Sx
open Go Go.RowKit Go.Bx

/-- Which way a test goes: known, or as told. -/
def decide1 (st : St) (r : Ref) : Option (Bool × List Fact × St) :=
  match truth st.kn r with
  | some b => some (b, [], st)
  | none => match r, st.dec with
    | .v i, b :: rest => some (b, [.cond i b], { st with kn := (i, b) :: st.kn, dec := rest })
    | _, _ => none
theorem decide1_ok {st st' : St} {r : Ref} {b : Bool} {fs : List Fact} (h : decide1 st r = some (b, fs, st')) : st'.mem = st.mem ∧ ∀ (fns : Fns) ρ, (∀ x ∈ fs, Fact.ok fns ρ x) → KnOK ρ st.kn → KnOK ρ st'.kn ∧ decide (r.den ρ ≠ 0) = b := by
  unfold decide1 at h
  split at h
  · rename_i b' ht
    cases h
    exact ⟨rfl, fun fns ρ _ hk => ⟨hk, truth_ok hk ht⟩⟩
  · split at h
    · rename_i i b' rest hd
      cases h
      refine ⟨rfl, fun fns ρ hf hk => ?_⟩
      have := hf _ (List.mem_singleton.2 rfl)
      exact ⟨(fun p hp => by
        rcases List.mem_cons.1 hp with rfl | hp
        · exact this
        · exact hk p hp), this⟩
    · cases h
def guardSlot (ops : List Oper) (o : Oper) : Option Tmp :=
  match o.guard with
  | none => none
  | some (j, _) => match ops[j]? with
    | some oj => oj.dst
    | none => none
def wantX (ops : List Oper) (slots : List SV) (st : St) (o : Oper) : Option (Bool × List Fact × St) :=
  match o.guard with
  | none => some (true, [], st)
  | some (j, want) => match ops[j]? with
    | some oj => match oj.dst with
      | some d => match slots[d]? with
        | some (.c (.bool r)) => match decide1 st r with
          | some (b, fs, st') => some ((if b then want else !want), fs, st')
          | none => none
        | some (.c .undef) => some (false, [], st)
        | _ => none
      | none => none
    | none => none
def preX (ev : Ev) (st : St) (op : Op) : Option (List Fact × St) :=
  match op with
  | .pick c _ _ => match ev c with
    | some (.c (.bool r)) => match decide1 st r with
      | some (_, fs, st') => some (fs, st')
      | none => none
    | _ => some ([], st)
  | _ => some ([], st)
theorem preX_ok {ev : Ev} {st st' : St} {op : Op} {fs : List Fact} (h : preX ev st op = some (fs, st')) : st'.mem = st.mem ∧ ∀ (fns : Fns) ρ, (∀ x ∈ fs, Fact.ok fns ρ x) → KnOK ρ st.kn → KnOK ρ st'.kn := by
  unfold preX at h
  split at h
  · split at h
    · split at h
      · rename_i b fs' st'' hd
        cases h
        obtain ⟨h1, h2⟩ := decide1_ok hd
        exact ⟨h1, fun fns ρ hf hk => (h2 fns ρ hf hk).1⟩
      · cases h
    · cases h; exact ⟨rfl, fun _ _ _ hk => hk⟩
  · cases h; exact ⟨rfl, fun _ _ _ hk => hk⟩
/-- What an act holds. -/
structure Slots (E : Env) (slots : List SV) (a : Act) : Prop where
  sz : a.tmps.size = slots.length
  df : a.defers = []
  at_ : ∀ (t : Tmp) (s : SV), slots[t]? = some s → s.Rel E (a.tmps.getD t Go.undef)
theorem evX_ok {E : Env} {slots : List SV} {a : Act} (h : ∀ (t : Tmp) (s : SV), slots[t]? = some s → s.Rel E (a.tmps.getD t Go.undef)) : ∀ x u, evX slots x = some u → u.Rel E (a.eval x) := fun x u hx => by
  unfold evX at hx
  split at hx
  · exact h _ _ hx
  · exact ofVal_ok hx E
  · cases hx
theorem wantX_ok {E : Env} {ops : List Oper} {slots : List SV} {st st' : St} {o : Oper} {b : Bool} {fs : List Fact} (h : wantX ops slots st o = some (b, fs, st')) :
    st'.mem = st.mem ∧ ∀ (fns : Fns) ρ, (∀ x ∈ fs, Fact.ok fns ρ x) → KnOK ρ st.kn → KnOK ρ st'.kn ∧ ∀ a : Act, E.ρ = ρ → a.tmps.size = slots.length → (∀ (t : Tmp) (s : SV), guardSlot ops o = some t → slots[t]? = some s → s.Rel E (a.tmps.getD t Go.undef)) → Region.wanted o (yielded ops.toArray a.tmps) = b := by
  unfold wantX at h
  split at h
  · rename_i hg
    cases h
    exact ⟨rfl, fun _ _ _ hk => ⟨hk, fun a _ _ _ => by simp [Region.wanted, hg]⟩⟩
  · rename_i j want hg
    split at h
    · rename_i oj hoj
      split at h
      · rename_i d hd
        split at h
        · rename_i r hs
          split at h
          · rename_i b' fs' st'' hdec
            cases h
            obtain ⟨h1, h2⟩ := decide1_ok hdec
            refine ⟨h1, fun fns ρ hf hk => ⟨(h2 fns ρ hf hk).1, fun a hρ hsz hrel => ?_⟩⟩
            have hb := (h2 fns ρ hf hk).2
            have hv := (hrel d _ (by simp [guardSlot, hg, hoj, hd]) hs).1
            rw [C.den, hρ, hb] at hv
            have hlt : d < a.tmps.size := by rw [hsz]; exact (List.getElem?_eq_some_iff.1 hs).1
            have hy : yielded ops.toArray a.tmps j = some b' := by
              have : a.tmps[d]? = some (.bool b') := by
                rw [Array.getD_eq_getD_getElem?, Array.getElem?_eq_getElem hlt] at hv
                rw [Array.getElem?_eq_getElem hlt]; exact congrArg some hv
              simp [yielded, hoj, hd, this]
            simp only [Region.wanted, hg, hy]
            cases b' <;> cases want <;> rfl
          · cases h
        · rename_i hs
          cases h
          refine ⟨rfl, fun _ _ _ hk => ⟨hk, fun a hρ hsz hrel => ?_⟩⟩
          have hv := (hrel d _ (by simp [guardSlot, hg, hoj, hd]) hs).1
          have hlt : d < a.tmps.size := by rw [hsz]; exact (List.getElem?_eq_some_iff.1 hs).1
          have hy : yielded ops.toArray a.tmps j = none := by
            have : a.tmps[d]? = some Go.undef := by
              rw [Array.getD_eq_getD_getElem?, Array.getElem?_eq_getElem hlt] at hv
              rw [Array.getElem?_eq_getElem hlt]; exact congrArg some hv
            simp [yielded, hoj, hd, this, Go.undef]
          simp only [Region.wanted, hg, hy]
          rfl
        · cases h
      · cases h
    · cases h
def runOne (P : Program) (call : CallH) (ops : List Oper) (slots : List SV) (st : St) (o : Oper) : Option (SV × List Fact × St) :=
  match wantX ops slots st o with
  | some (true, f1, st1) => match preX (evX slots) st1 o.op with
    | some (f2, st2) => match stepX P call (evX slots) st2 o.op with
      | some (s, f3, st3) => some (s, f1 ++ (f2 ++ f3), st3)
      | none => none
    | none => none
  | some (false, f1, st1) => some (.c .undef, f1, st1)
  | none => none
def putX (slots : List SV) (d : Option Tmp) (s : SV) : List SV :=
  match d with
  | some d => slots.set d s
  | none => slots
/-- One step, whether it is wanted or not. -/
theorem runOne_ok {P : Program} {fns : Fns} {call : CallH} (hcall : CallOK P fns call) {ops : List Oper} {slots : List SV} {st st' : St} {o : Oper} {s : SV} {fs : List Fact} (h : runOne P call ops slots st o = some (s, fs, st')) :
    MemLe st.mem st'.mem ∧ ∀ ρ, (∀ x ∈ fs, Fact.ok fns ρ x) → KnOK ρ st.kn → KnOK ρ st'.kn ∧
    ∀ (E : Env) (a : Act) (w : World), E.ρ = ρ → Good E st.mem w → a.tmps.size = slots.length → (∀ (t : Tmp) (s : SV), guardSlot ops o = some t → slots[t]? = some s → s.Rel E (a.tmps.getD t Go.undef)) →
      (∀ x u, evX slots x = some u → u.Rel E (a.eval x)) →
      ∀ (K : Act → World → Prop) (Q : Exit → Act → World → Prop), (∀ E' v w', Ext E E' st.mem.length w → s.Rel E' v → Good E' st'.mem w' → Fr (Vis E st.mem) w w' → K (a.put o.dst v) w') →
      if Region.wanted o (yielded ops.toArray a.tmps) = true then o.wp P a w K Q ∨ (o.asks P a w ∧ LetsOut Q) else K (a.put o.dst Go.undef) w := by
  unfold runOne at h
  split at h
  · rename_i f1 st1 hw
    split at h
    · rename_i f2 st2 hp
      split at h
      · rename_i s' f3 st3 hs
        cases h
        obtain ⟨w1, w2⟩ := wantX_ok (E := ⟨fun _ => 0, fun _ => none, fun _ => none⟩) hw
        obtain ⟨p1, p2⟩ := preX_ok hp
        obtain ⟨s1, s2⟩ := stepX_ok hcall hs
        rw [p1, w1] at s1
        refine ⟨s1, fun ρ hf hk => ?_⟩
        have k1 := (w2 fns ρ (fun x hx => hf x (by simp [hx])) hk).1
        have k2 := p2 fns ρ (fun x hx => hf x (by simp [hx])) k1
        have k3 := s2 ρ (fun x hx => hf x (by simp [hx])) k2
        refine ⟨k3.1, fun E a w hρ hg hsz hgd hev' K Q hK => ?_⟩
        have hwant := ((wantX_ok (E := E) hw).2 fns ρ (fun x hx => hf x (by simp [hx])) hk).2 a hρ hsz hgd
        rw [if_pos hwant]
        refine .inl (k3.2 E a w hρ (by rw [p1, w1]; exact hg) hev' K Q fun E' v w' x1 x2 x3 x4 => hK E' v w' (by rw [p1, w1] at x1; exact x1) x2 x3 (by rw [p1, w1] at x4; exact x4))
      · cases h
    · cases h
  · rename_i f1 st1 hw
    cases h
    obtain ⟨w1, w2⟩ := wantX_ok (E := ⟨fun _ => 0, fun _ => none, fun _ => none⟩) hw
    refine ⟨by rw [w1]; exact MemLe.refl _, fun ρ hf hk => ⟨(w2 fns ρ hf hk).1, fun E a w hρ hg hsz hgd hev' K Q hK => ?_⟩⟩
    have hwant := ((wantX_ok (E := E) hw).2 fns ρ hf hk).2 a hρ hsz hgd
    rw [if_neg (by rw [hwant]; simp)]
    exact hK E Go.undef w (Ext.refl _ _ _) ⟨rfl, trivial⟩ (by rw [w1]; exact hg) (Fr.refl _ _)
  · cases h
theorem Slots.put {E E' : Env} {slots : List SV} {a : Act} (h : Slots E slots a) (hx : Le E E') {d : Option Tmp} {s : SV} {v : Value} (hs : s.Rel E' v) : Slots E' (putX slots d s) (a.put d v) := by
  cases d with
  | none => exact ⟨h.sz, h.df, fun t s' ht => Rel_ext hx (h.at_ t s' ht)⟩
  | some d =>
    refine ⟨by simp [putX, Act.put, h.sz], h.df, fun t s' ht => ?_⟩
    simp only [putX] at ht
    have hlt : t < slots.length := by have := (List.getElem?_eq_some_iff.1 ht).1; simpa using this
    by_cases e : d = t
    · subst e
      rw [List.getElem?_set_self hlt] at ht
      cases ht
      have : (a.put (some d) v).tmps.getD d Go.undef = v := by simp [Act.put, h.sz, hlt]
      rw [this]; exact hs
    · rw [List.getElem?_set_ne e] at ht
      have : (a.put (some d) v).tmps.getD t Go.undef = a.tmps.getD t Go.undef := by simp [Act.put, Array.getElem?_setIfInBounds_ne e]
      rw [this]; exact Rel_ext hx (h.at_ t s' ht)
def runSeq (P : Program) (call : CallH) (ops : List Oper) : List Oper → List SV → St → Option (List SV × List Fact × St)
  | [], slots, st => some (slots, [], st)
  | o :: rest, slots, st => match runOne P call ops slots st o with
    | some (s, f, st1) => match runSeq P call ops rest (putX slots o.dst s) st1 with
      | some (sl, f', st2) => some (sl, f ++ f', st2)
      | none => none
    | none => none
theorem Vis.back {E E' : Env} {mem mem' : Mem} {w : World} (hx : Ext E E' mem.length w) (hm : MemLe mem mem') (hl : ∀ b, mem.length ≤ b → E.blk b = none) {g : Nat} (hg : g < w.heap.size) (h : Vis E' mem' g) : Vis E mem g := by
  obtain ⟨b, B, h1, h2⟩ := h
  rcases hx.new b g h2 with h2 | ⟨_, h2⟩
  · by_cases hb : b < mem.length
    · obtain ⟨B', hB'⟩ := hm.2 b B h1 hb
      exact ⟨b, B', hB', h2⟩
    · rw [hl b (by omega)] at h2; cases h2
  · omega
theorem Fr.next {E E' : Env} {mem mem' : Mem} {w w1 w2 : World} (hx : Ext E E' mem.length w) (hm : MemLe mem mem') (hl : ∀ b, mem.length ≤ b → E.blk b = none) (h1 : Fr (Vis E mem) w w1) (h2 : Fr (Vis E' mem') w1 w2) : Fr (Vis E mem) w w2 :=
  h1.trans' h2 fun _ hi hv => Vis.back hx hm hl hi hv
theorem runSeq_ok {P : Program} {fns : Fns} {call : CallH} (hcall : CallOK P fns call) {ops : List Oper} : ∀ {rest : List Oper} {slots slots' : List SV} {st st' : St} {fs : List Fact}, runSeq P call ops rest slots st = some (slots', fs, st') →
    MemLe st.mem st'.mem ∧ ∀ ρ, (∀ x ∈ fs, Fact.ok fns ρ x) → KnOK ρ st.kn → KnOK ρ st'.kn ∧
    ∀ (E : Env) (a : Act) (w : World), E.ρ = ρ → Good E st.mem w → Slots E slots a → ∀ (Q : Exit → Act → World → Prop), (∀ E' a' w', Ext E E' st.mem.length w → Slots E' slots' a' → Good E' st'.mem w' → Fr (Vis E st.mem) w w' → Q .normal a' w') → wpList P ops.toArray Q rest a w
  | [], slots, slots', st, st', fs, h => by
    cases h
    exact ⟨MemLe.refl _, fun ρ _ hk => ⟨hk, fun E a w _ hg hs Q hQ => hQ E a w (Ext.refl _ _ _) hs hg (Fr.refl _ _)⟩⟩
  | o :: rest, slots, slots', st, st', fs, h => by
    unfold runSeq at h
    split at h
    · rename_i s f st1 h1
      split at h
      · rename_i sl f' st2 h2
        cases h
        obtain ⟨m1, r1⟩ := runOne_ok hcall h1
        obtain ⟨m2, r2⟩ := runSeq_ok hcall h2
        refine ⟨m1.trans m2, fun ρ hf hk => ?_⟩
        have k1 := r1 ρ (fun x hx => hf x (by simp [hx])) hk
        have k2 := r2 ρ (fun x hx => hf x (by simp [hx])) k1.1
        refine ⟨k2.1, fun E a w hρ hg hs Q hQ => ?_⟩
        have hev := evX_ok hs.at_
        refine k1.2 E a w hρ hg hs.sz (fun t s _ ht => hs.at_ t s ht) hev (wpList P ops.toArray Q rest) Q fun E' v w' x1 x2 x3 x4 => ?_
        refine k2.2 E' _ w' (x1.ρ.trans hρ) x3 (hs.put x1.le x2) Q fun E'' a'' w'' y1 y2 y3 y4 => ?_
        exact hQ E'' a'' w'' (x1.trans y1 m1.1 x4.size) y2 y3 (Fr.next x1 m1 hg.len x4 y4)
      · cases h
    · cases h
end Go.Sx
