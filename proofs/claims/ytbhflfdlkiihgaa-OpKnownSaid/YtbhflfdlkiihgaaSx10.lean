/- Code and calls, over names. No condition. -/
import Derived.Test.YtbhflfdlkiihgaaSx9
import Derived.LoopN
namespace Go.Sx
open Go Go.RowKit Go.Bx

inductive Ex where
  | normal
  | exit (id : Nat)
  | ret
def Ex.out : Ex → Exit
  | .normal => .normal
  | .exit id => .exit id
  | .ret => .ret
abbrev Res := Option (Ex × List SV × List Fact × St)
def iter (f : List SV → St → Res) : Nat → List SV → St → Res
  | 0, _, _ => none
  | n + 1, sl, st => match f sl st with
    | some (.normal, sl1, f1, st1) => match iter f n sl1 st1 with
      | some (e, sl2, f2, st2) => some (e, sl2, f1 ++ f2, st2)
      | none => none
    | r => r
def run (P : Program) (call : CallH) (lf : Nat) : Code → List SV → St → Res
  | .skip, sl, st => some (.normal, sl, [], st)
  | .label _, sl, st => some (.normal, sl, [], st)
  | .region _ ops draw, sl, st => if draw then
      match runD P call ops.toList ops.toList sl st [] with
      | some (rows, _, sl', fs, st') => if okRows [] rows && okAnc [] ops.toList rows then some (.normal, sl', fs, st') else none
      | none => none
    else match runSeq P call ops.toList ops.toList sl st with
      | some (sl', fs, st') => some (.normal, sl', fs, st')
      | none => none
  | .seq x y, sl, st => match run P call lf x sl st with
    | some (.normal, sl1, f1, st1) => match run P call lf y sl1 st1 with
      | some (e, sl2, f2, st2) => some (e, sl2, f1 ++ f2, st2)
      | none => none
    | r => r
  | .cond c x y, sl, st => match evX sl c with
    | some (.c (.bool r)) => match decide1 st r with
      | some (true, f1, st1) => match run P call lf x sl st1 with
        | some (e, sl2, f2, st2) => some (e, sl2, f1 ++ f2, st2)
        | none => none
      | some (false, f1, st1) => match run P call lf y sl st1 with
        | some (e, sl2, f2, st2) => some (e, sl2, f1 ++ f2, st2)
        | none => none
      | none => none
    | _ => none
  | .block id c, sl, st => match run P call lf c sl st with
    | some (.exit j, sl1, f1, st1) => if Nat.beq j id then some (.normal, sl1, f1, st1) else some (.exit j, sl1, f1, st1)
    | r => r
  | .loop c, sl, st => iter (fun sl st => run P call lf c sl st) lf sl st
  | .exit id, sl, st => some (.exit id, sl, [], st)
  | .ret, sl, st => some (.ret, sl, [], st)
  | _, _, _ => none
/-- What is shown of a run. -/
def Runs (fns : Fns) (W : (Exit → Act → World → Prop) → Act → World → Prop) (sl : List SV) (st : St) (e : Ex) (sl' : List SV) (fs : List Fact) (st' : St) : Prop :=
  MemLe st.mem st'.mem ∧ ∀ ρ, (∀ x ∈ fs, Fact.ok fns ρ x) → KnOK ρ st.kn → KnOK ρ st'.kn ∧
    ∀ (E : Env) (a : Act) (w : World), E.ρ = ρ → Good E st.mem w → Slots E sl a → ∀ (Q : Exit → Act → World → Prop), (∀ E' a' w', Ext E E' st.mem.length w → Slots E' sl' a' → Good E' st'.mem w' → Fr (Vis E st.mem) w w' → Q e.out a' w') → W Q a w
section
variable {P : Program} {fns : Fns} {call : CallH}
theorem Runs.then {W : (Exit → Act → World → Prop) → Act → World → Prop} {sl sl1 sl2 : List SV} {st st1 st2 : St} {e1 e2 : Ex} {f1 f2 : List Fact} {W1 W2 : (Exit → Act → World → Prop) → Act → World → Prop}
    (h1 : Runs fns W1 sl st e1 sl1 f1 st1) (h2 : Runs fns W2 sl1 st1 e2 sl2 f2 st2) (hw : ∀ Q a w (Q1 : Exit → Act → World → Prop), (∀ a w, W2 Q a w → Q1 e1.out a w) → W1 Q1 a w → (∀ Q1' : Exit → Act → World → Prop, (∀ a w, W2 Q a w → Q1' e1.out a w) → W1 Q1' a w) → W Q a w) : Runs fns W sl st e2 sl2 (f1 ++ f2) st2 := by
  obtain ⟨m1, r1⟩ := h1
  obtain ⟨m2, r2⟩ := h2
  refine ⟨m1.trans m2, fun ρ hf hk => ?_⟩
  have k1 := r1 ρ (fun x hx => hf x (by simp [hx])) hk
  have k2 := r2 ρ (fun x hx => hf x (by simp [hx])) k1.1
  refine ⟨k2.1, fun E a w hρ hg hs Q hQ => ?_⟩
  have key : ∀ Q1' : Exit → Act → World → Prop, (∀ a w, W2 Q a w → Q1' e1.out a w) → W1 Q1' a w := fun Q1' hq1 =>
    k1.2 E a w hρ hg hs Q1' fun E' a' w' x1 x2 x3 x4 => hq1 _ _ (k2.2 E' a' w' (x1.ρ.trans hρ) x3 x2 Q fun E'' a'' w'' y1 y2 y3 y4 => hQ E'' a'' w'' (x1.trans y1 m1.1 x4.size) y2 y3 (Fr.next x1 m1 hg.len x4 y4))
  exact hw Q a w (fun _ a w => W2 Q a w) (fun _ _ h => h) (key _ fun _ _ h => h) key
theorem Runs.map {W W' : (Exit → Act → World → Prop) → Act → World → Prop} {sl sl1 : List SV} {st st1 : St} {e e' : Ex} {f1 : List Fact} (h : Runs fns W sl st e sl1 f1 st1)
    (hw : ∀ Q a w, (∀ Q1 : Exit → Act → World → Prop, (∀ a w, Q e'.out a w → Q1 e.out a w) → W Q1 a w) → W' Q a w) : Runs fns W' sl st e' sl1 f1 st1 := by
  obtain ⟨m1, r1⟩ := h
  refine ⟨m1, fun ρ hf hk => ⟨(r1 ρ hf hk).1, fun E a w hρ hg hs Q hQ => ?_⟩⟩
  exact hw Q a w fun Q1 hq1 => (r1 ρ hf hk).2 E a w hρ hg hs Q1 fun E' a' w' x1 x2 x3 x4 => hq1 _ _ (hQ E' a' w' x1 x2 x3 x4)
theorem Runs.here {W : (Exit → Act → World → Prop) → Act → World → Prop} {sl : List SV} {st : St} {e : Ex} (hw : ∀ Q a w, Q e.out a w → W Q a w) : Runs fns W sl st e sl [] st :=
  ⟨MemLe.refl _, fun _ _ hk => ⟨hk, fun E a w _ hg hs Q hQ => hw Q a w (hQ E a w (Ext.refl _ _ _) hs hg (Fr.refl _ _))⟩⟩
theorem iter_ok {c : Code} {f : List SV → St → Res} (hf : ∀ sl st e sl' fs st', f sl st = some (e, sl', fs, st') → Runs fns (c.wp P) sl st e sl' fs st') :
    ∀ (n : Nat) (sl : List SV) (st : St) (e : Ex) (sl' : List SV) (fs : List Fact) (st' : St), iter f n sl st = some (e, sl', fs, st') → Runs fns (fun Q => Code.rounds P c Q n) sl st e sl' fs st'
  | 0, _, _, _, _, _, _, h => by cases h
  | n + 1, sl, st, e, sl', fs, st', h => by
    unfold iter at h
    split at h
    · rename_i sl1 f1 st1 h1
      split at h
      · rename_i e2 sl2 f2 st2 h2
        cases h
        refine (hf _ _ _ _ _ _ h1).then (iter_ok hf n _ _ _ _ _ _ h2) fun Q a w Q1 _ _ hk => ?_
        rw [rounds_succ]
        exact hk _ fun a w h => h
      · cases h
    · rename_i hne
      refine (hf _ _ _ _ _ _ h).map fun Q a w hk => ?_
      rw [rounds_succ]
      refine hk _ fun a w hq => ?_
      cases e with
      | normal => exact absurd h (hne _ _ _)
      | exit id => exact hq
      | ret => exact hq
theorem run_ok (hcall : CallOK P fns call) (hm : P.follows .mixedOrders = true) (lf : Nat) : ∀ (c : Code) (sl : List SV) (st : St) (e : Ex) (sl' : List SV) (fs : List Fact) (st' : St), run P call lf c sl st = some (e, sl', fs, st') → Runs fns (c.wp P) sl st e sl' fs st' := by
  intro c
  induction c with
  | skip => intro sl st e sl' fs st' h; cases h; exact Runs.here fun Q a w h => wp_skip h
  | label l => intro sl st e sl' fs st' h; cases h; exact Runs.here fun Q a w h => wp_label h
  | exit id => intro sl st e sl' fs st' h; cases h; exact Runs.here fun Q a w h => wp_exit h
  | ret => intro sl st e sl' fs st' h; cases h; exact Runs.here fun Q a w h => wp_ret h
  | region id ops draw =>
    intro sl st e sl' fs st' h
    unfold run at h
    split at h
    · rename_i hd
      split at h
      · rename_i rows tr sl1 f1 st1 h1
        split at h
        · rename_i hb
          cases h
          simp only [Bool.and_eq_true] at hb
          obtain ⟨m, r⟩ := runD_ok hcall hm h1 hb.1 hb.2
          subst hd
          refine ⟨m, fun ρ hf hk => ⟨(r ρ hf hk).1, fun E a w hρ hg hs Q hQ => ?_⟩⟩
          have := (r ρ hf hk).2 E a w hρ hg hs Q id hQ
          rwa [Array.toArray_toList] at this
        · cases h
      · cases h
    · rename_i hd
      split at h
      · rename_i sl1 f1 st1 h1
        cases h
        obtain ⟨m, r⟩ := runSeq_ok hcall h1
        have hd : draw = false := by simpa using hd
        subst hd
        refine ⟨m, fun ρ hf hk => ⟨(r ρ hf hk).1, fun E a w hρ hg hs Q hQ => ?_⟩⟩
        refine wp_region_list ?_
        have := (r ρ hf hk).2 E a w hρ hg hs Q hQ
        rwa [Array.toArray_toList] at this
      · cases h
  | seq x y ihx ihy =>
    intro sl st e sl' fs st' h
    unfold run at h
    split at h
    · rename_i sl1 f1 st1 h1
      split at h
      · rename_i e2 sl2 f2 st2 h2
        cases h
        exact (ihx _ _ _ _ _ _ h1).then (ihy _ _ _ _ _ _ h2) fun Q a w Q1 _ _ hk => wp_seq (hk _ fun a w h => h)
      · cases h
    · rename_i hne
      refine (ihx _ _ _ _ _ _ h).map fun Q a w hk => wp_seq (hk _ fun a w hq => ?_)
      cases e with
      | normal => exact absurd h (hne _ _ _)
      | exit id => exact hq
      | ret => exact hq
  | cond c x y ihx ihy =>
    intro sl st e sl' fs st' h
    unfold run at h
    split at h
    · rename_i r hc
      have key : ∀ (b : Bool) (f1 : List Fact) (st1 : St) (z : Code), decide1 st r = some (b, f1, st1) → (if b then x else y) = z → ∀ e2 sl2 f2 st2, Runs fns (z.wp P) sl st1 e2 sl2 f2 st2 → Runs fns ((Code.cond c x y).wp P) sl st e2 sl2 (f1 ++ f2) st2 := by
        intro b f1 st1 z hd hz e2 sl2 f2 st2 ⟨m, rr⟩
        obtain ⟨d1, d2⟩ := decide1_ok hd
        rw [d1] at m
        refine ⟨m, fun ρ hf hk => ?_⟩
        obtain ⟨k1, hb⟩ := d2 fns ρ (fun x hx => hf x (by simp [hx])) hk
        have k2 := rr ρ (fun x hx => hf x (by simp [hx])) k1
        refine ⟨k2.1, fun E a w hρ hg hs Q hQ => ?_⟩
        have hv := (evX_ok hs.at_ _ _ hc).1
        rw [C.den, hρ, hb] at hv
        refine wp_cond hv ?_
        rw [hz]
        exact k2.2 E a w hρ (by rw [d1]; exact hg) hs Q fun E' a' w' x1 x2 x3 x4 => hQ E' a' w' (by rw [d1] at x1; exact x1) x2 x3 (by rw [d1] at x4; exact x4)
      split at h
      · rename_i f1 st1 hd
        split at h
        · rename_i e2 sl2 f2 st2 h2
          cases h
          exact key true f1 st1 x hd rfl _ _ _ _ (ihx _ _ _ _ _ _ h2)
        · cases h
      · rename_i f1 st1 hd
        split at h
        · rename_i e2 sl2 f2 st2 h2
          cases h
          exact key false f1 st1 y hd rfl _ _ _ _ (ihy _ _ _ _ _ _ h2)
        · cases h
      · cases h
    · cases h
  | block id c ih =>
    intro sl st e sl' fs st' h
    unfold run at h
    split at h
    · rename_i j sl1 f1 st1 h1
      split at h
      · rename_i hj
        cases h
        refine (ih _ _ _ _ _ _ h1).map fun Q a w hk => wp_block (hk _ fun a w hq => ?_)
        have := Nat.eq_of_beq_eq_true hj
        subst this
        simp only [Ex.out, Exit.inBlock, if_true]
        exact hq
      · rename_i hj
        cases h
        refine (ih _ _ _ _ _ _ h1).map fun Q a w hk => wp_block (hk _ fun a w hq => ?_)
        have : ¬ j = id := fun e => hj (by subst e; exact Nat.beq_refl j)
        simp only [Ex.out, Exit.inBlock, this, if_false]
        exact hq
    · rename_i hne
      refine (ih _ _ _ _ _ _ h).map fun Q a w hk => wp_block (hk _ fun a w hq => ?_)
      cases e with
      | normal => exact hq
      | exit j => exact absurd h (hne _ _ _ _)
      | ret => exact hq
  | loop c ih =>
    intro sl st e sl' fs st' h
    unfold run at h
    refine (iter_ok (P := P) (c := c) (fun sl st e sl' fs st' h => ih _ _ _ _ _ _ h) lf _ _ _ _ _ _ h).map fun Q a w hk => wp_loop_rounds lf (hk _ fun a w hq => hq)
  | scope c ih => intro sl st e sl' fs st' h; cases h
  | rangeFunc f ps a b iha ihb => intro sl st e sl' fs st' h; cases h
  | goto l => intro sl st e sl' fs st' h; cases h
  | refuse why => intro sl st e sl' fs st' h; cases h
end
end Go.Sx
