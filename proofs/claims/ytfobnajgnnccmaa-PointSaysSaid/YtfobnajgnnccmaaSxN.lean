/- Loops inside of loops, by their states. No condition. -/
import Derived.Test.YtfobnajgnnccmaaSxL
namespace Go.Sx
open Go Go.RowKit Go.Bx
/-- Code whose loops (of its spine) are told by their states, where a table has one. -/
def runTs (P : Program) (call : CallH) (lf : Nat) (tb : List LoopT) : Nat → Code → List SV → St → Res
  | k, .seq x y, sl, st => match runTs P call lf tb k x sl st with
    | some (.normal, sl1, f1, st1) => match runTs P call lf tb (k + nl x) y sl1 st1 with
      | some (e, sl2, f2, st2) => some (e, sl2, f1 ++ f2, st2)
      | none => none
    | r => r
  | k, .block id c, sl, st => match runTs P call lf tb k c sl st with
    | some (.exit j, sl1, f1, st1) => if Nat.beq j id then some (.normal, sl1, f1, st1) else some (.exit j, sl1, f1, st1)
    | r => r
  | k, .loop c, sl, st => match tb[k]? with
    | some t => loopX t sl st
    | none => run P call lf (.loop c) sl st
  | _, c, sl, st => run P call lf c sl st
theorem loopAt_lt : ∀ {c : Code} {i : Nat} {cl : Code}, loopAt i c = some cl → i < nl c := by
  intro c
  induction c with
  | seq x y ihx ihy =>
    intro i cl h
    unfold loopAt at h
    unfold nl
    split at h
    · have := ihx h; omega
    · have := ihy h; omega
  | block id c ih => intro i cl h; unfold loopAt at h; unfold nl; exact ih h
  | loop c _ =>
    intro i cl h
    unfold loopAt at h
    unfold nl
    split at h
    · rename_i h0; have := Nat.eq_of_beq_eq_true h0; omega
    · cases h
  | _ => intro i cl h; cases h
theorem runTs_ok {P : Program} {fns : Fns} {call : CallH} (hcall : CallOK P fns call) (hm : P.follows .mixedOrders = true) (lf : Nat) (tb : List LoopT) : ∀ (c : Code) (k : Nat), (∀ i t cl, tb[k + i]? = some t → loopAt i c = some cl → LoopOKW P fns t cl) →
    ∀ (sl : List SV) (st : St) (e : Ex) (sl' : List SV) (fs : List Fact) (st' : St), runTs P call lf tb k c sl st = some (e, sl', fs, st') → Runs fns (c.wp P) sl st e sl' fs st' := by
  intro c
  induction c with
  | seq x y ihx ihy =>
    intro k hl sl st e sl' fs st' h
    have hx : ∀ i t cl, tb[k + i]? = some t → loopAt i x = some cl → LoopOKW P fns t cl := fun i t cl h1 h2 => hl i t cl h1 (by
      unfold loopAt; rw [if_pos (show Nat.blt i (nl x) = true from Nat.ble_eq_true_of_le (loopAt_lt h2))]; exact h2)
    have hy : ∀ i t cl, tb[k + nl x + i]? = some t → loopAt i y = some cl → LoopOKW P fns t cl := fun i t cl h1 h2 => hl (nl x + i) t cl (by rw [← Nat.add_assoc]; exact h1) (by
      unfold loopAt; rw [if_neg (fun h => by have := blt_lt h; omega), Nat.add_sub_cancel_left]; exact h2)
    unfold runTs at h
    split at h
    · rename_i sl1 f1 st1 h1
      split at h
      · rename_i e2 sl2 f2 st2 h2
        cases h
        exact (ihx k hx _ _ _ _ _ _ h1).then (ihy _ hy _ _ _ _ _ _ h2) fun Q a w Q1 _ _ hk => wp_seq (hk _ fun a w h => h)
      · cases h
    · rename_i hne
      refine (ihx k hx _ _ _ _ _ _ h).map fun Q a w hk => wp_seq (hk _ fun a w hq => ?_)
      cases e with
      | normal => exact absurd h (hne _ _ _)
      | exit id => exact hq
      | ret => exact hq
  | block id c ih =>
    intro k hl sl st e sl' fs st' h
    have hc : ∀ i t cl, tb[k + i]? = some t → loopAt i c = some cl → LoopOKW P fns t cl := fun i t cl h1 h2 => hl i t cl h1 (by unfold loopAt; exact h2)
    unfold runTs at h
    split at h
    · rename_i j sl1 f1 st1 h1
      split at h
      · rename_i hj
        cases h
        refine (ih k hc _ _ _ _ _ _ h1).map fun Q a w hk => wp_block (hk _ fun a w hq => ?_)
        have := Nat.eq_of_beq_eq_true hj
        subst this
        simp only [Ex.out, Exit.inBlock, if_true]
        exact hq
      · rename_i hj
        cases h
        refine (ih k hc _ _ _ _ _ _ h1).map fun Q a w hk => wp_block (hk _ fun a w hq => ?_)
        have : ¬ j = id := fun e => hj (by subst e; exact Nat.beq_refl j)
        simp only [Ex.out, Exit.inBlock, this, if_false]
        exact hq
    · rename_i hne
      refine (ih k hc _ _ _ _ _ _ h).map fun Q a w hk => wp_block (hk _ fun a w hq => ?_)
      cases e with
      | normal => exact hq
      | exit j => exact absurd h (hne _ _ _ _)
      | ret => exact hq
  | loop c _ =>
    intro k hl sl st e sl' fs st' h
    unfold runTs at h
    split at h
    · rename_i t ht
      exact loopX_ok (hl 0 t c ht (by unfold loopAt; rfl)) h
    · exact run_ok hcall hm lf _ _ _ _ _ _ _ h
  | _ => intro k hl sl st e sl' fs st' h; exact run_ok hcall hm lf _ _ _ _ _ _ _ h
/-- A round whose loops are told by their states. -/
def roundTB (P : Program) (T : List Ctr) (lf d : Nat) (tb : List LoopT) (c : Option Code) (t : LoopT) (dec : List Bool) (e : Option Nat) (fs : List Fact) (nx : List Ref) : Bool :=
  match c with
  | none => false
  | some c => match runTs P (callN P T lf d) lf tb 0 c t.slT ⟨t.memT, t.m, [], dec⟩ with
    | some (e', slP, fs', stP) => (match e, e' with | none, .normal => true | some i, .exit j => Nat.beq i j | _, _ => false) && factsEqb fs' fs && wfF t.m fs && eqSlots nx t.slT slP && eqMem nx t.memT stP.mem && Nat.beq nx.length t.m
    | none => false
theorem RoundEndW.of {P : Program} {fns : Fns} {T : List Ctr} (hT : ∀ c ∈ T, CtrOK P fns c) (hm : P.follows .mixedOrders = true) {lf d : Nat} {tb : List LoopT} {c : Code} (hl : ∀ i t cl, tb[i]? = some t → loopAt i c = some cl → LoopOKW P fns t cl) {t : LoopT} {ρT : Nat → Int} {dec : List Bool} {e : Option Nat} {fs : List Fact} {nx : List Ref} (h : roundTB P T lf d tb (some c) t dec e fs nx = true) {x' : Nat → Int}
    (hρ : ∀ ρ, (∀ i, i < t.m → ρ i = ρT i) → Defs fns ρ fs → Todo fns ρ fs ∧ ∀ i, i < t.m → (nx.map (Ref.den ρ)).getD i 0 = x' i) : RoundEndW P fns c t.slT t.memT t.m ρT (exOf e) x' := by
  unfold roundTB at h
  simp only at h
  split at h
  · rename_i e' slP fs' stP hrun
    simp only [Bool.and_eq_true] at h
    obtain ⟨⟨⟨⟨⟨h1, h2⟩, h3⟩, h4⟩, h5⟩, h6⟩ := h
    have := factsEqb_eq h2
    subst this
    have he : e' = exOf e := by
      revert h1
      cases e <;> cases e' <;> intro h1 <;> simp only [exOf] at h1 ⊢ <;> first | rfl | cases h1 | (rw [Nat.eq_of_beq_eq_true h1])
    subst he
    obtain ⟨e1, e2⟩ := evalF_ok (fns := fns) ρT h3
    obtain ⟨k1, k2⟩ := hρ _ e1 (defs_of e2 (evalF_sharp _ h3 e1))
    refine ⟨dec, slP, fs', stP, nx, evalF fns ρT fs', runTs_ok (callN_ok hT hm lf d) hm lf tb c 0 (fun i t cl h1 h2 => hl i t cl (by rw [Nat.zero_add] at h1; exact h1) h2) _ _ _ _ _ _ hrun, h4, h5, e1, fun f hf => ?_, fun i hi => ?_⟩
    · cases hd : f.isDef with
      | true => exact e2 f hf hd
      | false => exact of_todo k1 f hf hd
    · rw [← k2 i hi]
      have hlen := Nat.eq_of_beq_eq_true h6
      simp only [stρ, instR]
      simp [List.getD_eq_getElem?_getD, hlen, hi]
  · cases h
end Go.Sx
