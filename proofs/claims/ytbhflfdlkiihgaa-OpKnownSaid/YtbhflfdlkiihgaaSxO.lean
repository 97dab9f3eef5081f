/- A function one of whose statements is shown apart. No condition. -/
import Derived.Test.YtbhflfdlkiihgaaSxL
namespace Go.Sx
open Go Go.RowKit Go.Bx
/-- The k-th statement of a body that is one statement behind another. -/
def midAt : Nat → Code → Option Code
  | 0, .seq x _ => some x
  | k + 1, .seq _ y => midAt k y
  | _, _ => none
def runK (P : Program) (call : CallH) (lf : Nat) (sp : List SV → St → Option (List SV × List Fact × St)) : Nat → Code → List SV → St → Res
  | 0, .seq _ y, sl, st => match sp sl st with
    | some (sl1, f1, st1) => match run P call lf y sl1 st1 with
      | some (e, sl2, f2, st2) => some (e, sl2, f1 ++ f2, st2)
      | none => none
    | none => none
  | k + 1, .seq x y, sl, st => match run P call lf x sl st with
    | some (.normal, sl1, f1, st1) => match runK P call lf sp k y sl1 st1 with
      | some (e, sl2, f2, st2) => some (e, sl2, f1 ++ f2, st2)
      | none => none
    | r => r
  | _, _, _, _ => none
theorem runK_ok {P : Program} {fns : Fns} {call : CallH} (hcall : CallOK P fns call) (hm : P.follows .mixedOrders = true) (lf : Nat) {sp : List SV → St → Option (List SV × List Fact × St)} : ∀ (k : Nat) (c : Code), (∀ c', midAt k c = some c' → ∀ sl st sl' fs st', sp sl st = some (sl', fs, st') → Runs fns (c'.wp P) sl st .normal sl' fs st') →
    ∀ (sl : List SV) (st : St) (e : Ex) (sl' : List SV) (fs : List Fact) (st' : St), runK P call lf sp k c sl st = some (e, sl', fs, st') → Runs fns (c.wp P) sl st e sl' fs st'
  | 0, .seq x y, hs, sl, st, e, sl', fs, st', h => by
    unfold runK at h
    split at h
    · rename_i sl1 f1 st1 h1
      split at h
      · rename_i e2 sl2 f2 st2 h2
        cases h
        exact (hs x rfl _ _ _ _ _ h1).then (run_ok hcall hm lf _ _ _ _ _ _ _ h2) fun Q a w Q1 _ _ hk => wp_seq (hk _ fun a w h => h)
      · cases h
    · cases h
  | k + 1, .seq x y, hs, sl, st, e, sl', fs, st', h => by
    unfold runK at h
    split at h
    · rename_i sl1 f1 st1 h1
      split at h
      · rename_i e2 sl2 f2 st2 h2
        cases h
        exact (run_ok hcall hm lf _ _ _ _ _ _ _ h1).then (runK_ok hcall hm lf k y hs _ _ _ _ _ _ h2) fun Q a w Q1 _ _ hk => wp_seq (hk _ fun a w h => h)
      · cases h
    · rename_i hne
      refine (run_ok hcall hm lf _ _ _ _ _ _ _ h).map fun Q a w hk => wp_seq (hk _ fun a w hq => ?_)
      cases e with
      | normal => exact absurd h (hne _ _ _)
      | exit id => exact hq
      | ret => exact hq
  | 0, .skip, _, _, _, _, _, _, _, h => by cases h
  | 0, .label _, _, _, _, _, _, _, _, h => by cases h
  | 0, .region .., _, _, _, _, _, _, _, h => by cases h
  | 0, .cond .., _, _, _, _, _, _, _, h => by cases h
  | 0, .block .., _, _, _, _, _, _, _, h => by cases h
  | 0, .loop .., _, _, _, _, _, _, _, h => by cases h
  | 0, .exit .., _, _, _, _, _, _, _, h => by cases h
  | 0, .ret, _, _, _, _, _, _, _, h => by cases h
  | k + 1, .skip, _, _, _, _, _, _, _, h => by cases h
  | k + 1, .label _, _, _, _, _, _, _, _, h => by cases h
  | k + 1, .region .., _, _, _, _, _, _, _, h => by cases h
  | k + 1, .cond .., _, _, _, _, _, _, _, h => by cases h
  | k + 1, .block .., _, _, _, _, _, _, _, h => by cases h
  | k + 1, .loop .., _, _, _, _, _, _, _, h => by cases h
  | k + 1, .exit .., _, _, _, _, _, _, _, h => by cases h
  | k + 1, .ret, _, _, _, _, _, _, _, h => by cases h
/-- A way through a function, by whatever reckoner. -/
structure WayR (R : Code → List SV → St → Res) (P : Program) (fns : Fns) (c : Ctr) (xs : List (List Int)) (out : List Int) : Prop where
  ex : ∃ (dec : List Bool) (s : SV) (fs : List Fact) (st' : St) (refs : List Ref), inlineR R P c.f (argsS 0 0 c.ps) (startS c.ps dec) = some (s, fs, st') ∧ wfF (total c.ps) fs = true ∧ resRefsM (argsM 0 c.ps).length st'.mem c.rs s = some refs ∧ sameM (argsM 0 c.ps) st'.mem = true ∧
    ∀ ρ, (∀ i, i < total c.ps → ρ i = flat xs i) → (∀ f ∈ fs, f.isDef = true → f.ok fns ρ) → (∀ f ∈ fs, f.sharp ρ) → (∀ f ∈ fs, f.isDef = false → f.ok fns ρ) ∧ refs.map (Ref.den ρ) = out
theorem CtrOK.ofR {R : Code → List SV → St → Res} {P : Program} {fns : Fns} {c : Ctr} (hR : ∀ fn c', P.funcs[c.f]? = some fn → fn.body = some c' → ∀ sl st e sl' fs st', R c' sl st = some (e, sl', fs, st') → Runs fns (c'.wp P) sl st e sl' fs st') (hp : okShs c.ps = true)
    (h : ∀ (w : World) (vs : List Value) (xs : List (List Int)), ArgsAre w c.ps vs xs → fns.pre c.j xs → WayR R P fns c xs (fns.g c.j xs)) : CtrOK P fns c := by
  refine CtrOK.mk (okShs_obj hp) ?_
  intro w vs xs ha hpre
  obtain ⟨dec, s, fs, st', refs, h1, h2, h3, hsame, h4⟩ := (h w vs xs ha hpre).ex
  have hlen := flat_len hp ha
  obtain ⟨e1, e2⟩ := evalF_ok (fns := fns) (flat xs) h2
  obtain ⟨k1, k2⟩ := h4 _ e1 e2 (evalF_sharp _ h2 e1)
  have hall : ∀ f ∈ fs, f.ok fns (evalF fns (flat xs) fs) := fun f hf => by
    cases hd : f.isDef with
    | true => exact e2 f hf hd
    | false => exact k1 f hf hd
  obtain ⟨E, hE1, hE2, hrel, hgood⟩ := args_start (ρ := evalF fns (flat xs) fs) hp ha (fun i hi => by rw [e1 i (by omega)]; rfl)
  obtain ⟨_, r⟩ := inlineR_ok (fns := fns) (R := R) hR _ _ _ _ _ h1
  refine ((r _ hall (fun _ h => by cases h)).2 E w vs hE1 hgood hrel).mono fun v w' ⟨E', x1, x2, x3, x4⟩ => ?_
  obtain ⟨p, q⟩ := resRefsM_ok h3 hgood.len hgood.vlen x1 x3 x2
  rw [x1.ρ, hE1, k2] at p q
  refine ⟨p, q, ⟨x4.os, x4.tape, x4.output, x4.size, fun k hk => ?_⟩⟩
  by_cases hv : Vis E (argsM 0 c.ps) k
  · obtain ⟨b, B, b1, b2⟩ := hv
    obtain ⟨g, g1, g2, g3⟩ := hgood.at_ b B b1
    rw [b2] at g1; cases g1
    obtain ⟨g', q1, q2, q3⟩ := x3.at_ b B (sameM_spec hsame b B b1)
    rw [x1.at_ b k b2] at q1; cases q1
    rw [q2, g2, (dens_ext x1.le g3).1]
  · exact x4.block k hk hv
def wayRB (R : Code → List SV → St → Res) (P : Program) (c : Ctr) (dec : List Bool) (fs : List Fact) (refs : List Ref) : Bool :=
  match inlineR R P c.f (argsS 0 0 c.ps) (startS c.ps dec) with
  | some (s, fs', st') => factsEqb fs' fs && wfF (total c.ps) fs && sameM (argsM 0 c.ps) st'.mem && (match resRefsM (argsM 0 c.ps).length st'.mem c.rs s with | some r => refsEqb r refs | none => false)
  | none => false
theorem WayR.of {R : Code → List SV → St → Res} {P : Program} {fns : Fns} {c : Ctr} {xs : List (List Int)} {out : List Int} {dec : List Bool} {fs : List Fact} {refs : List Ref} (h : wayRB R P c dec fs refs = true)
    (hρ : ∀ ρ, (∀ i, i < total c.ps → ρ i = flat xs i) → Defs fns ρ fs → Todo fns ρ fs ∧ refs.map (Ref.den ρ) = out) : WayR R P fns c xs out := by
  unfold wayRB at h
  split at h
  · rename_i s fs' st' hrun
    simp only [Bool.and_eq_true] at h
    obtain ⟨⟨⟨h1, h2⟩, h3⟩, h4⟩ := h
    have := factsEqb_eq h1
    subst this
    split at h4
    · rename_i r hr
      have := refsEqb_eq h4
      subst this
      exact ⟨dec, s, fs', st', r, hrun, h2, hr, h3, fun ρ h1 h2 h3 => ⟨of_todo (hρ ρ h1 (defs_of h2 h3)).1, (hρ ρ h1 (defs_of h2 h3)).2⟩⟩
    · cases h4
  · cases h
end Go.Sx
