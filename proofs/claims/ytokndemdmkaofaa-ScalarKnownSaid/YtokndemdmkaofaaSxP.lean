/- Functions with a loop over what they were given: what was given is as it was, shown along the way. No condition. -/
import Derived.Test.YtokndemdmkaofaaSxN
namespace Go.Sx
open Go Go.RowKit Go.Bx
def pairC (a b : C) : Option (List (Ref × Ref)) :=
  if C.eqb a b then some [] else match a, b with
  | .int k x, .int k' y => if k = k' then some [(x, y)] else none
  | _, _ => none
def pairCs : List C → List C → Option (List (Ref × Ref))
  | [], [] => some []
  | a :: l, b :: m => match pairC a b, pairCs l m with
    | some p, some q => some (p ++ q)
    | _, _ => none
  | _, _ => none
def pairM : Mem → Mem → Option (List (Ref × Ref))
  | [], _ => some []
  | none :: l, _ :: m => pairM l m
  | some A :: l, some B :: m => if Nat.beq B.t A.t then match pairCs A.cs B.cs, pairM l m with
    | some p, some q => some (p ++ q)
    | _, _ => none
    else none
  | _, _ => none
theorem pairC_ok {E : Env} {a b : C} {ps : List (Ref × Ref)} (h : pairC a b = some ps) (hp : ∀ p ∈ ps, p.1.den E.ρ = p.2.den E.ρ) : b.den E = a.den E := by
  unfold pairC at h
  split at h
  · rename_i he; rw [C.eqb_eq he]
  · split at h
    · split at h
      · rename_i hk
        cases h; subst hk
        simp only [C.den, hp _ (List.mem_singleton.2 rfl)]
      · cases h
    · cases h
theorem pairCs_ok {E : Env} : ∀ {l m : List C} {ps : List (Ref × Ref)}, pairCs l m = some ps → (∀ p ∈ ps, p.1.den E.ρ = p.2.den E.ρ) → dens E m = dens E l
  | [], [], _, _, _ => rfl
  | a :: l, b :: m, ps, h, hp => by
    unfold pairCs at h
    split at h
    · rename_i p q h1 h2
      cases h
      have e1 := pairC_ok (E := E) h1 fun x hx => hp x (by simp [hx])
      have e2 := pairCs_ok (E := E) h2 fun x hx => hp x (by simp [hx])
      simp only [dens, List.map_cons] at e2 ⊢
      rw [e1, e2]
    · cases h
  | [], _ :: _, _, h, _ => by simp [pairCs] at h
  | _ :: _, [], _, h, _ => by simp [pairCs] at h
theorem pairM_ok {E : Env} : ∀ {l m : Mem} {ps : List (Ref × Ref)}, pairM l m = some ps → (∀ p ∈ ps, p.1.den E.ρ = p.2.den E.ρ) → ∀ (t : Nat) (B : Blk), l[t]? = some (some B) → ∃ B' : Blk, m[t]? = some (some B') ∧ B'.t = B.t ∧ dens E B'.cs = dens E B.cs
  | [], _, _, _, _, t, B, ht => by simp at ht
  | none :: l, x :: m, ps, h, hp, t, B, ht => by
    cases t with
    | zero => simp at ht
    | succ t => simpa using pairM_ok (l := l) (m := m) h hp t B (by simpa using ht)
  | some A :: l, some A' :: m, ps, h, hp, t, B, ht => by
    unfold pairM at h
    split at h
    · rename_i hb
      split at h
      · rename_i p q h1 h2
        cases h
        cases t with
        | zero =>
          simp at ht; subst ht
          exact ⟨A', rfl, Nat.eq_of_beq_eq_true hb, pairCs_ok h1 fun x hx => hp x (by simp [hx])⟩
        | succ t => simpa using pairM_ok h2 (fun x hx => hp x (by simp [hx])) t B (by simpa using ht)
      · cases h
    · cases h
  | some _ :: _, none :: _, _, h, _, _, _, _ => by simp [pairM] at h
  | some _ :: _, [], _, h, _, _, _, _ => by simp [pairM] at h
  | none :: _, [], _, h, _, _, _, _ => by simp [pairM] at h
/-- A way through a function, and what is to be shown along it. -/
structure WayP (P : Program) (fns : Fns) (T : List Ctr) (lf d : Nat) (t : LoopT) (k : Nat) (c : Ctr) (xs : List (List Int)) (out : List Int) : Prop where
  ex : ∃ (dec : List Bool) (s : SV) (fs : List Fact) (st' : St) (refs : List Ref) (ps : List (Ref × Ref)), inlineR (runL P (callN P T lf d) lf t k) P c.f (argsS 0 0 c.ps) (startS c.ps dec) = some (s, fs, st') ∧ wfF (total c.ps) fs = true ∧ resRefsM (argsM 0 c.ps).length st'.mem c.rs s = some refs ∧ pairM (argsM 0 c.ps) st'.mem = some ps ∧
    ∀ ρ, (∀ i, i < total c.ps → ρ i = flat xs i) → (∀ f ∈ fs, f.isDef = true → f.ok fns ρ) → (∀ f ∈ fs, f.sharp ρ) → (∀ f ∈ fs, f.isDef = false → f.ok fns ρ) ∧ refs.map (Ref.den ρ) = out ∧ ∀ p ∈ ps, p.1.den ρ = p.2.den ρ
theorem CtrOK.ofP {P : Program} {fns : Fns} {T : List Ctr} (hT : ∀ c ∈ T, CtrOK P fns c) (hm : P.follows .mixedOrders = true) {lf d : Nat} {t : LoopT} {k : Nat} {c : Ctr} {fn : Func} {body : Code} (hfn : P.funcs[c.f]? = some fn) (hbody : fn.body = some body) (hl : ∀ cl, loopAt k body = some cl → LoopOKW P fns t cl) (hp : okShs c.ps = true)
    (h : ∀ (w : World) (vs : List Value) (xs : List (List Int)), ArgsAre w c.ps vs xs → fns.pre c.j xs → WayP P fns T lf d t k c xs (fns.g c.j xs)) : CtrOK P fns c := by
  intro w vs xs ha hpre
  obtain ⟨dec, s, fs, st', refs, ps, h1, h2, h3, hsame, h4⟩ := (h w vs xs ha hpre).ex
  have hlen := flat_len hp ha
  obtain ⟨e1, e2⟩ := evalF_ok (fns := fns) (flat xs) h2
  obtain ⟨k1, k2, k3⟩ := h4 _ e1 e2 (evalF_sharp _ h2 e1)
  have hall : ∀ f ∈ fs, f.ok fns (evalF fns (flat xs) fs) := fun f hf => by
    cases hd : f.isDef with
    | true => exact e2 f hf hd
    | false => exact k1 f hf hd
  obtain ⟨E, hE1, hE2, hrel, hgood⟩ := args_start (ρ := evalF fns (flat xs) fs) hp ha (fun i hi => by rw [e1 i (by omega)]; rfl)
  obtain ⟨_, r⟩ := inlineR_ok (fns := fns) (R := runL P (callN P T lf d) lf t k) (fun fn' c' hf' hc' sl st e sl' fs st' h => runL_ok (callN_ok hT hm lf d) hm lf t c' k (fun cl hcl => hl cl (by rw [hfn] at hf'; cases hf'; rw [hbody] at hc'; cases hc'; exact hcl)) _ _ _ _ _ _ h) _ _ _ _ _ h1
  refine ((r _ hall (fun _ h => by cases h)).2 E w vs hE1 hgood hrel).mono fun v w' ⟨E', x1, x2, x3, x4⟩ => ?_
  obtain ⟨p, q⟩ := resRefsM_ok h3 hgood.len x1 x3 x2
  rw [x1.ρ, hE1, k2] at p q
  refine ⟨p, q, ⟨x4.os, x4.tape, x4.output, x4.size, fun k hk => ?_⟩⟩
  by_cases hv : Vis E (argsM 0 c.ps) k
  · obtain ⟨b, B, b1, b2⟩ := hv
    obtain ⟨g, g1, g2, g3⟩ := hgood.at_ b B b1
    rw [b2] at g1; cases g1
    obtain ⟨B', m1, m2, m3⟩ := pairM_ok (E := E') hsame (by rw [x1.ρ, hE1]; exact k3) b B b1
    obtain ⟨g', q1, q2, q3⟩ := x3.at_ b B' m1
    rw [x1.at_ b k b2] at q1; cases q1
    rw [q2, g2, m2, m3, (dens_ext x1.le g3).1]
  · exact x4.block k hk hv
/-- A way: the facts along it, what is answered, what is to be as it was. -/
def wayPB (P : Program) (T : List Ctr) (lf d : Nat) (t : LoopT) (k : Nat) (c : Ctr) (dec : List Bool) (fs : List Fact) (refs : List Ref) (ps : List (Ref × Ref)) : Bool :=
  match inlineR (runL P (callN P T lf d) lf t k) P c.f (argsS 0 0 c.ps) (startS c.ps dec) with
  | some (s, fs', st') => factsEqb fs' fs && wfF (total c.ps) fs && (match pairM (argsM 0 c.ps) st'.mem with | some q => pairsEqb q ps | none => false) && (match resRefsM (argsM 0 c.ps).length st'.mem c.rs s with | some r => refsEqb r refs | none => false)
  | none => false
theorem WayP.of {P : Program} {fns : Fns} {T : List Ctr} {lf d : Nat} {t : LoopT} {k : Nat} {c : Ctr} {xs : List (List Int)} {out : List Int} {dec : List Bool} {fs : List Fact} {refs : List Ref} {ps : List (Ref × Ref)} (h : wayPB P T lf d t k c dec fs refs ps = true)
    (hρ : ∀ ρ, (∀ i, i < total c.ps → ρ i = flat xs i) → Defs fns ρ fs → Todo fns ρ fs ∧ refs.map (Ref.den ρ) = out ∧ ∀ p ∈ ps, p.1.den ρ = p.2.den ρ) : WayP P fns T lf d t k c xs out := by
  unfold wayPB at h
  split at h
  · rename_i s fs' st' hrun
    simp only [Bool.and_eq_true] at h
    obtain ⟨⟨⟨h1, h2⟩, h3⟩, h4⟩ := h
    have := factsEqb_eq h1
    subst this
    split at h3
    · rename_i qs hq
      have := pairsEqb_eq h3
      subst this
      split at h4
      · rename_i r hr
        have := refsEqb_eq h4
        subst this
        exact ⟨dec, s, fs', st', r, qs, hrun, h2, hr, hq, fun ρ h1 h2 h3 => ⟨of_todo (hρ ρ h1 (defs_of h2 h3)).1, (hρ ρ h1 (defs_of h2 h3)).2⟩⟩
      · cases h4
    · cases h3
  · cases h
end Go.Sx
