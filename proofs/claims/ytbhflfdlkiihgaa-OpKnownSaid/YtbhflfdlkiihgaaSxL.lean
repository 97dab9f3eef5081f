/- A function with a loop, reckoned: the loop by its state. No condition. -/
import Derived.Test.YtbhflfdlkiihgaaSxD
namespace Go.Sx
open Go Go.RowKit Go.Bx
/-- A loop's state: slots and memory over m integers; the function that tells its end; by what it is left; how it is entered. -/
structure LoopT where
  slT : List SV
  memT : Mem
  m : Nat
  j : Nat
  xid : Nat
  σ : List Ref
def loopX (t : LoopT) (sl : List SV) (st : St) : Res :=
  if t.slT.all (SV.tm t.m t.memT.length) && memTm t.m t.memT.length t.memT && Nat.beq t.σ.length t.m && eqSlots t.σ t.slT sl && eqMem t.σ t.memT st.mem then
    some (.exit t.xid, t.slT.map (instS (outRefs st.n t.m)), [.need t.j [t.σ], .call st.n t.j [t.σ] t.m], { st with mem := putM (outRefs st.n t.m) t.memT st.mem, n := st.n + t.m })
  else none
def nl : Code → Nat
  | .seq x y => nl x + nl y
  | .block _ c => nl c
  | .loop _ => 1
  | _ => 0
def loopAt : Nat → Code → Option Code
  | k, .seq x y => if Nat.blt k (nl x) then loopAt k x else loopAt (k - nl x) y
  | k, .block _ c => loopAt k c
  | k, .loop c => if Nat.beq k 0 then some c else none
  | _, _ => none
def runL (P : Program) (call : CallH) (lf : Nat) (t : LoopT) : Nat → Code → List SV → St → Res
  | k, .seq x y, sl, st => if Nat.blt k (nl x) then match runL P call lf t k x sl st with
      | some (.normal, sl1, f1, st1) => match run P call lf y sl1 st1 with
        | some (e, sl2, f2, st2) => some (e, sl2, f1 ++ f2, st2)
        | none => none
      | r => r
    else match run P call lf x sl st with
      | some (.normal, sl1, f1, st1) => match runL P call lf t (k - nl x) y sl1 st1 with
        | some (e, sl2, f2, st2) => some (e, sl2, f1 ++ f2, st2)
        | none => none
      | r => r
  | k, .block id c, sl, st => match runL P call lf t k c sl st with
    | some (.exit j, sl1, f1, st1) => if Nat.beq j id then some (.normal, sl1, f1, st1) else some (.exit j, sl1, f1, st1)
    | r => r
  | k, .loop _, sl, st => if Nat.beq k 0 then loopX t sl st else none
  | _, _, _, _ => none
/-- What is shown of a loop. -/
structure LoopOK (P : Program) (fns : Fns) (call : CallH) (lf : Nat) (t : LoopT) (c : Code) : Prop where
  ex : ∃ (Inv : (Nat → Int) → (Nat → Int) → Prop) (μ : (Nat → Int) → Nat), (∀ ρ0, TOk t.slT t.memT ρ0 → fns.pre t.j [xs t.m ρ0] → Inv ρ0 ρ0) ∧
    ∀ ρ0 ρT, TOk t.slT t.memT ρT → Inv ρ0 ρT → ∃ e x', RoundEnd P fns call lf c t.slT t.memT t.m ρT e x' ∧ ((e = .normal ∧ Inv ρ0 x' ∧ μ x' < μ ρT) ∨ (e = .exit t.xid ∧ ∀ i, i < t.m → x' i = (fns.g t.j [xs t.m ρ0]).getD i 0))
structure LoopOKW (P : Program) (fns : Fns) (t : LoopT) (c : Code) : Prop where
  ex : ∃ (Inv : (Nat → Int) → (Nat → Int) → Prop) (μ : (Nat → Int) → Nat), (∀ ρ0, TOk t.slT t.memT ρ0 → fns.pre t.j [xs t.m ρ0] → Inv ρ0 ρ0) ∧
    ∀ ρ0 ρT, TOk t.slT t.memT ρT → Inv ρ0 ρT → ∃ e x', RoundEndW P fns c t.slT t.memT t.m ρT e x' ∧ ((e = .normal ∧ Inv ρ0 x' ∧ μ x' < μ ρT) ∨ (e = .exit t.xid ∧ ∀ i, i < t.m → x' i = (fns.g t.j [xs t.m ρ0]).getD i 0))
theorem LoopOK.toW {P : Program} {fns : Fns} {call : CallH} (hcall : CallOK P fns call) (hm : P.follows .mixedOrders = true) {lf : Nat} {t : LoopT} {c : Code} (h : LoopOK P fns call lf t c) : LoopOKW P fns t c := by
  obtain ⟨Inv, μ, h0, h1⟩ := h.ex
  refine ⟨Inv, μ, h0, fun ρ0 ρT ht hi => ?_⟩
  obtain ⟨e, x', h2, h3⟩ := h1 ρ0 ρT ht hi
  exact ⟨e, x', h2.toW hcall hm, h3⟩
theorem loopX_ok {P : Program} {fns : Fns} {t : LoopT} {c : Code} (hl : LoopOKW P fns t c) {sl : List SV} {st : St} {e : Ex} {sl' : List SV} {fs : List Fact} {st' : St} (h : loopX t sl st = some (e, sl', fs, st')) : Runs fns ((Code.loop c).wp P) sl st e sl' fs st' := by
  unfold loopX at h
  split at h
  · rename_i hc
    cases h
    simp only [Bool.and_eq_true] at hc
    obtain ⟨⟨⟨⟨c1, c2⟩, c3⟩, c4⟩, c5⟩ := hc
    obtain ⟨Inv, μ, h0, hround⟩ := hl.ex
    exact Runs.loop c1 c2 (Nat.eq_of_beq_eq_true c3) c4 c5 Inv μ h0 hround
  · cases h
theorem runL_ok {P : Program} {fns : Fns} {call : CallH} (hcall : CallOK P fns call) (hm : P.follows .mixedOrders = true) (lf : Nat) (t : LoopT) : ∀ (c : Code) (k : Nat), (∀ cl, loopAt k c = some cl → LoopOKW P fns t cl) →
    ∀ (sl : List SV) (st : St) (e : Ex) (sl' : List SV) (fs : List Fact) (st' : St), runL P call lf t k c sl st = some (e, sl', fs, st') → Runs fns (c.wp P) sl st e sl' fs st' := by
  intro c
  induction c with
  | seq x y ihx ihy =>
    intro k hl sl st e sl' fs st' h
    unfold runL at h
    unfold loopAt at hl
    split at h
    · rename_i hk
      rw [if_pos hk] at hl
      split at h
      · rename_i sl1 f1 st1 h1
        split at h
        · rename_i e2 sl2 f2 st2 h2
          cases h
          exact (ihx k hl _ _ _ _ _ _ h1).then (run_ok hcall hm lf _ _ _ _ _ _ _ h2) fun Q a w Q1 _ _ hk => wp_seq (hk _ fun a w h => h)
        · cases h
      · rename_i hne
        refine (ihx k hl _ _ _ _ _ _ h).map fun Q a w hk => wp_seq (hk _ fun a w hq => ?_)
        cases e with
        | normal => exact absurd h (hne _ _ _)
        | exit id => exact hq
        | ret => exact hq
    · rename_i hk
      rw [if_neg hk] at hl
      split at h
      · rename_i sl1 f1 st1 h1
        split at h
        · rename_i e2 sl2 f2 st2 h2
          cases h
          exact (run_ok hcall hm lf _ _ _ _ _ _ _ h1).then (ihy _ hl _ _ _ _ _ _ h2) fun Q a w Q1 _ _ hk => wp_seq (hk _ fun a w h => h)
        · cases h
      · rename_i hne
        refine (run_ok hcall hm lf _ _ _ _ _ _ _ h).map fun Q a w hk => wp_seq (hk _ fun a w hq => ?_)
        cases e with
        | normal => exact absurd h (hne _ _ _)
        | exit id => exact hq
        | ret => exact hq
  | block id c ih =>
    intro k hl sl st e sl' fs st' h
    unfold runL at h
    unfold loopAt at hl
    split at h
    · rename_i j sl1 f1 st1 h1
      split at h
      · rename_i hj
        cases h
        refine (ih k hl _ _ _ _ _ _ h1).map fun Q a w hk => wp_block (hk _ fun a w hq => ?_)
        have := Nat.eq_of_beq_eq_true hj
        subst this
        simp only [Ex.out, Exit.inBlock, if_true]
        exact hq
      · rename_i hj
        cases h
        refine (ih k hl _ _ _ _ _ _ h1).map fun Q a w hk => wp_block (hk _ fun a w hq => ?_)
        have : ¬ j = id := fun e => hj (by subst e; exact Nat.beq_refl j)
        simp only [Ex.out, Exit.inBlock, this, if_false]
        exact hq
    · rename_i hne
      refine (ih k hl _ _ _ _ _ _ h).map fun Q a w hk => wp_block (hk _ fun a w hq => ?_)
      cases e with
      | normal => exact hq
      | exit j => exact absurd h (hne _ _ _ _)
      | ret => exact hq
  | loop c _ =>
    intro k hl sl st e sl' fs st' h
    unfold runL at h
    split at h
    rotate_left
    · cases h
    rename_i hk0
    exact loopX_ok (hl c (by unfold loopAt; rw [if_pos hk0])) h
  | _ => intro k hl sl st e sl' fs st' h; cases h
/-- A function's body by another reckoner. -/
def inlineR (R : Code → List SV → St → Res) (P : Program) : CallH := fun f args st =>
  match P.funcs[f]? with
  | some fn => if fn.name == "runtime.NumGoroutine" then none else match fn.body with
    | some c => match R c (args ++ List.replicate (fn.ntmps - args.length) (.c .undef)) st with
      | some (.exit _, _, _, _) => none
      | some (_, sl, fs, st') => match resultX P sl st'.mem fn.results.toList with
        | some s => some (s, fs, forget st.mem.length s st')
        | none => none
      | none => none
    | none => none
  | none => none
theorem inlineR_ok {P : Program} {fns : Fns} {R : Code → List SV → St → Res} {f : FuncId} (hR : ∀ fn c, P.funcs[f]? = some fn → fn.body = some c → ∀ sl st e sl' fs st', R c sl st = some (e, sl', fs, st') → Runs fns (c.wp P) sl st e sl' fs st') : ∀ args st s fs st', inlineR R P f args st = some (s, fs, st') → MemLe st.mem st'.mem ∧ ∀ ρ, (∀ x ∈ fs, Fact.ok fns ρ x) → KnOK ρ st.kn → KnOK ρ st'.kn ∧
    ∀ (E : Env) (w : World) (vs : List Value), E.ρ = ρ → Good E st.mem w → RelL E args vs → Goes P f vs.toArray w fun v w' => ∃ E', Ext E E' st.mem.length w ∧ s.Rel E' v ∧ Good E' st'.mem w' ∧ Fr (Vis E st.mem) w w' := by
  intro args st s fs st' h
  unfold inlineR at h
  split at h
  · rename_i fn hfn
    split at h
    · cases h
    rename_i hname
    split at h
    · rename_i c hc
      have main : ∀ (e : Ex) (sl : List SV) (st1 : St), R c (args ++ List.replicate (fn.ntmps - args.length) (.c .undef)) st = some (e, sl, fs, st1) → (e = .normal ∨ e = .ret) → resultX P sl st1.mem fn.results.toList = some s → st' = forget st.mem.length s st1 →
          MemLe st.mem st'.mem ∧ ∀ ρ, (∀ x ∈ fs, Fact.ok fns ρ x) → KnOK ρ st.kn → KnOK ρ st'.kn ∧
          ∀ (E : Env) (w : World) (vs : List Value), E.ρ = ρ → Good E st.mem w → RelL E args vs → Goes P f vs.toArray w fun v w' => ∃ E', Ext E E' st.mem.length w ∧ s.Rel E' v ∧ Good E' st'.mem w' ∧ Fr (Vis E st.mem) w w' := by
        intro e sl st1 hrun he hres hst
        obtain ⟨m, r⟩ := hR fn c hfn hc _ _ _ _ _ _ hrun
        have hkn : st'.kn = st1.kn := by rw [hst]; unfold forget; split <;> rfl
        refine ⟨?_, fun ρ hf hk => ?_⟩
        · rw [hst]; unfold forget; split
          · have hlen : (st1.mem.take st.mem.length).length = st.mem.length := by rw [List.length_take]; have := m.1; omega
            exact ⟨by simp only [hlen]; exact Nat.le_refl _, fun b B hb hbl => m.2 b B (by simp only at hb; rw [List.getElem?_take_of_lt hbl] at hb; exact hb) hbl⟩
          · exact m
        · refine ⟨by rw [hkn]; exact (r ρ hf hk).1, fun E w vs hρ hg hv => ?_⟩
          have hlen := RelL_len hv
          refine .inl ⟨fn, c, hfn, by simpa using hname, hc, calls_of_wp hfn hc ?_⟩
          refine (r ρ hf hk).2 E _ w hρ hg ⟨?_, rfl, fun t u ht => ?_⟩ _ fun E' a' w' x1 x2 x3 x4 => ?_
          · simp [hlen]
          · by_cases hlt : t < args.length
            · rw [List.getElem?_append_left hlt] at ht
              obtain ⟨v, hv1, hv2⟩ := RelL_get hv ht
              have hvl := (List.getElem?_eq_some_iff.1 hv1)
              obtain ⟨hvlt, hve⟩ := hvl
              have : (vs.toArray ++ Array.replicate (fn.ntmps - vs.toArray.size) Go.undef).getD t Go.undef = v := by
                rw [Array.getD_eq_getD_getElem?, Array.getElem?_append_left (by simpa using hvlt)]
                simp [hvlt, hve]
              rw [this]; exact hv2
            · rw [List.getElem?_append_right (Nat.le_of_not_lt hlt)] at ht
              obtain ⟨hb, rfl⟩ := List.getElem?_eq_some_iff.1 ht
              rw [List.getElem_replicate]
              have : (vs.toArray ++ Array.replicate (fn.ntmps - vs.toArray.size) Go.undef).getD t Go.undef = Go.undef := by
                rw [Array.getD_eq_getD_getElem?, Array.getElem?_append_right (by rw [List.size_toArray, ← hlen]; exact Nat.le_of_not_lt hlt), Array.getElem?_replicate]
                split <;> rfl
              rw [this]; exact ⟨rfl, trivial⟩
          · obtain ⟨v, hv1, hv2⟩ := resultX_ok x3 x2 hres
            obtain ⟨_, E'', y1, y2, y3⟩ := forget_ok hg.vlen hg.len hg.lt x1 hv1 x3 m x4.size
            have : ∃ v, (results fn a'.tmps).run P w' = .ok v w' ∧ ∃ v', Ending.returned v = .returned v' ∧ ∃ E', Ext E E' st.mem.length w ∧ s.Rel E' v' ∧ Good E' st'.mem w' ∧ Fr (Vis E st.mem) w w' :=
              ⟨v, hv2, v, rfl, E'', y1, y2, by rw [hst]; exact y3, x4⟩
            rcases he with rfl | rfl
            · exact ⟨x2.df, this⟩
            · exact ⟨x2.df, this⟩
      split at h
      · cases h
      · rename_i e sl fs' st1 hne hrun
        split at h
        · rename_i s' hres
          cases h
          refine main e sl st1 hrun ?_ hres rfl
          cases e with
          | normal => exact .inl rfl
          | ret => exact .inr rfl
          | exit id => exact (hne id rfl).elim
        · cases h
      · cases h
    · cases h
  · cases h
/-- A way through a function, and what is to be shown along it. -/
structure WayL (P : Program) (fns : Fns) (T : List Ctr) (lf d : Nat) (t : LoopT) (k : Nat) (c : Ctr) (xs : List (List Int)) (out : List Int) : Prop where
  ex : ∃ (dec : List Bool) (s : SV) (fs : List Fact) (st' : St) (refs : List Ref), inlineR (runL P (callN P T lf d) lf t k) P c.f (argsS 0 0 c.ps) (startS c.ps dec) = some (s, fs, st') ∧ wfF (total c.ps) fs = true ∧ resRefsM (argsM 0 c.ps).length st'.mem c.rs s = some refs ∧ sameM (argsM 0 c.ps) st'.mem = true ∧
    ∀ ρ, (∀ i, i < total c.ps → ρ i = flat xs i) → (∀ f ∈ fs, f.isDef = true → f.ok fns ρ) → (∀ f ∈ fs, f.sharp ρ) → (∀ f ∈ fs, f.isDef = false → f.ok fns ρ) ∧ refs.map (Ref.den ρ) = out
/-- **What is shown of a function**, a way for each argument. -/
theorem CtrOK.ofW {P : Program} {fns : Fns} {T : List Ctr} (hT : ∀ c ∈ T, CtrOK P fns c) (hm : P.follows .mixedOrders = true) {lf d : Nat} {t : LoopT} {k : Nat} {c : Ctr} {fn : Func} {body : Code} (hfn : P.funcs[c.f]? = some fn) (hbody : fn.body = some body) (hl : ∀ cl, loopAt k body = some cl → LoopOKW P fns t cl) (hp : okShs c.ps = true)
    (h : ∀ (w : World) (vs : List Value) (xs : List (List Int)), ArgsAre w c.ps vs xs → fns.pre c.j xs → WayL P fns T lf d t k c xs (fns.g c.j xs)) : CtrOK P fns c := by
  refine CtrOK.mk (okShs_obj hp) ?_
  intro w vs xs ha hpre
  obtain ⟨dec, s, fs, st', refs, h1, h2, h3, hsame, h4⟩ := (h w vs xs ha hpre).ex
  have hlen := flat_len hp ha
  obtain ⟨e1, e2⟩ := evalF_ok (fns := fns) (flat xs) h2
  obtain ⟨k1, k2⟩ := h4 _ e1 e2 (evalF_sharp _ h2 e1)
  have hall : ∀ f ∈ fs, f.ok fns (evalF fns (flat xs) fs) := fun f hf => by
    cases hd : f.isDef with
    | true => exact e2 f hf hd
    | false => exact k1 f hf hd
  obtain ⟨E, hE1, hE2, hrel, hgood⟩ := args_start (ρ := evalF fns (flat xs) fs) hp ha (fun i hi => by rw [e1 i (by omega)]; rfl)
  obtain ⟨_, r⟩ := inlineR_ok (fns := fns) (R := runL P (callN P T lf d) lf t k) (fun fn' c' hf' hc' sl st e sl' fs st' h => runL_ok (callN_ok hT hm lf d) hm lf t c' k (fun cl hcl => hl cl (by rw [hfn] at hf'; cases hf'; rw [hbody] at hc'; cases hc'; exact hcl)) _ _ _ _ _ _ h) _ _ _ _ _ h1
  refine ((r _ hall (fun _ h => by cases h)).2 E w vs hE1 hgood hrel).mono fun v w' ⟨E', x1, x2, x3, x4⟩ => ?_
  obtain ⟨p, q⟩ := resRefsM_ok h3 hgood.len hgood.vlen x1 x3 x2
  rw [x1.ρ, hE1, k2] at p q
  refine ⟨p, q, ⟨x4.os, x4.tape, x4.output, x4.size, fun k hk => ?_⟩⟩
  by_cases hv : Vis E (argsM 0 c.ps) k
  · obtain ⟨b, B, b1, b2⟩ := hv
    obtain ⟨g, g1, g2, g3⟩ := hgood.at_ b B b1
    rw [b2] at g1; cases g1
    obtain ⟨g', q1, q2, q3⟩ := x3.at_ b B (sameM_spec hsame b B b1)
    rw [x1.at_ b k b2] at q1; cases q1
    rw [q2, g2, (dens_ext x1.le g3).1]
  · exact x4.block k hk hv
theorem CtrOK.ofL {P : Program} {fns : Fns} {T : List Ctr} (hT : ∀ c ∈ T, CtrOK P fns c) (hm : P.follows .mixedOrders = true) {lf d : Nat} {t : LoopT} {k : Nat} {c : Ctr} {fn : Func} {body : Code} (hfn : P.funcs[c.f]? = some fn) (hbody : fn.body = some body) (hl : ∀ cl, loopAt k body = some cl → LoopOK P fns (callN P T lf d) lf t cl) (hp : okShs c.ps = true)
    (h : ∀ (w : World) (vs : List Value) (xs : List (List Int)), ArgsAre w c.ps vs xs → fns.pre c.j xs → WayL P fns T lf d t k c xs (fns.g c.j xs)) : CtrOK P fns c :=
  CtrOK.ofW hT hm hfn hbody (fun cl hcl => (hl cl hcl).toW (callN_ok hT hm lf d) hm) hp h
/-- A way: the facts along it, and what is answered. -/
def wayLB (P : Program) (T : List Ctr) (lf d : Nat) (t : LoopT) (k : Nat) (c : Ctr) (dec : List Bool) (fs : List Fact) (refs : List Ref) : Bool :=
  match inlineR (runL P (callN P T lf d) lf t k) P c.f (argsS 0 0 c.ps) (startS c.ps dec) with
  | some (s, fs', st') => factsEqb fs' fs && wfF (total c.ps) fs && sameM (argsM 0 c.ps) st'.mem && (match resRefsM (argsM 0 c.ps).length st'.mem c.rs s with | some r => refsEqb r refs | none => false)
  | none => false
theorem WayL.of {P : Program} {fns : Fns} {T : List Ctr} {lf d : Nat} {t : LoopT} {k : Nat} {c : Ctr} {xs : List (List Int)} {out : List Int} {dec : List Bool} {fs : List Fact} {refs : List Ref} (h : wayLB P T lf d t k c dec fs refs = true)
    (hρ : ∀ ρ, (∀ i, i < total c.ps → ρ i = flat xs i) → Defs fns ρ fs → Todo fns ρ fs ∧ refs.map (Ref.den ρ) = out) : WayL P fns T lf d t k c xs out := by
  unfold wayLB at h
  split at h
  · rename_i s fs' st' hrun
    simp only [Bool.and_eq_true] at h
    obtain ⟨⟨⟨h1, h2⟩, h3⟩, h4⟩ := h
    have := factsEqb_eq h1
    subst this
    split at h4
    · rename_i r hr
      have := refsEqb_eq h4
      subst this
      exact ⟨dec, s, fs', st', r, hrun, h2, hr, h3, fun ρ h1 h2 h3 => ⟨of_todo (hρ ρ h1 (defs_of h2 h3)).1, (hρ ρ h1 (defs_of h2 h3)).2⟩⟩
    · cases h4
  · cases h
/-- A round: the facts along it, and the state behind it. -/
def roundB (P : Program) (T : List Ctr) (lf d : Nat) (c : Option Code) (t : LoopT) (dec : List Bool) (e : Option Nat) (fs : List Fact) (nx : List Ref) : Bool :=
  match c with
  | none => false
  | some c => match run P (callN P T lf d) lf c t.slT ⟨t.memT, t.m, [], dec⟩ with
    | some (e', slP, fs', stP) => (match e, e' with | none, .normal => true | some i, .exit j => Nat.beq i j | _, _ => false) && factsEqb fs' fs && wfF t.m fs && eqSlots nx t.slT slP && eqMem nx t.memT stP.mem && Nat.beq nx.length t.m
    | none => false
def exOf : Option Nat → Ex
  | none => .normal
  | some i => .exit i
theorem RoundEnd.of {P : Program} {fns : Fns} {T : List Ctr} {lf d : Nat} {c : Code} {t : LoopT} {ρT : Nat → Int} {dec : List Bool} {e : Option Nat} {fs : List Fact} {nx : List Ref} (h : roundB P T lf d (some c) t dec e fs nx = true) {x' : Nat → Int}
    (hρ : ∀ ρ, (∀ i, i < t.m → ρ i = ρT i) → Defs fns ρ fs → Todo fns ρ fs ∧ ∀ i, i < t.m → (nx.map (Ref.den ρ)).getD i 0 = x' i) : RoundEnd P fns (callN P T lf d) lf c t.slT t.memT t.m ρT (exOf e) x' := by
  unfold roundB at h
  simp only at h
  split at h
  · rename_i e' slP fs' stP hrun
    simp only [Bool.and_eq_true] at h
    obtain ⟨⟨⟨⟨⟨h1, h2⟩, h3⟩, h4⟩, h5⟩, h6⟩ := h
    have := factsEqb_eq h2
    subst this
    have he : e' = exOf e := by
      revert h1
      cases e <;> cases e' <;> intro h1 <;> simp only [exOf] at h1 ⊢ <;> first | rfl | cases h1 | (rw [Nat.eq_of_beq_eq_true h1])
    subst he
    obtain ⟨e1, e2⟩ := evalF_ok (fns := fns) ρT h3
    obtain ⟨k1, k2⟩ := hρ _ e1 (defs_of e2 (evalF_sharp _ h3 e1))
    refine ⟨dec, slP, fs', stP, nx, evalF fns ρT fs', hrun, h4, h5, e1, fun f hf => ?_, fun i hi => ?_⟩
    · cases hd : f.isDef with
      | true => exact e2 f hf hd
      | false => exact of_todo k1 f hf hd
    · rw [← k2 i hi]
      have hlen := Nat.eq_of_beq_eq_true h6
      simp only [stρ, instR]
      simp [List.getD_eq_getElem?_getD, hlen, hi]
  · cases h
end Go.Sx
